/- A company: workers that make memory, started one by one behind an Add, joined by a WaitGroup: what each suffers, what each may do, and their scripts. The company: where everybody stands; .. -/
import Derived.Test.YtlgiofglcgbjgaaM08
import Derived.Conc.CrowdStepC2
namespace Go.Par
open Go
section
open Go.Conc (Deaf Leavers Knows touchAt QuitsD Goes semEvents NoRelease)
open Go.ConcN (CT Ok0 OkW Apart sumTo upd WD CTag Mode Vc Ssum Fsum cnt pend phi WSit RW AtK1 WgLive RelBy)
open Go.ConcR (KK WgAt stA smA rd wr mk Payload DC0)
def fresh (w w':World) (b:Nat):Prop:=w.heap.size≤b∧b<w'.heap.size
structure Rly (ty:TypeId) (Wg C:Nat) (S O:Nat→Prop) (w w1:World):Prop where
 size:w.heap.size≤w1.heap.size
 calm:Calm w w1
 blk:∀ b,S b→w1.heap[b]?=w.heap[b]?
 pay:∀ cs t m,w.heap[C]?=some (.cells cs t m)→∃ cs',w1.heap[C]?=some (.cells cs' t m)∧cs'.size=cs.size∧∀ o,O o→cs'[o]?=cs[o]?
 live:WgLive ty Wg w→WgLive ty Wg w1
section
variable {ty:TypeId} {Wg C:Nat} {S O:Nat→Prop} {w w1 w2:World}
theorem Rly.refl (w:World):Rly ty Wg C S O w w:=⟨Nat.le_refl _,.refl w,fun _ _=>rfl,fun cs _ _ h=>⟨cs,h,rfl,fun _ _=>rfl⟩,id⟩
theorem Rly.trans (h:Rly ty Wg C S O w w1) (k:Rly ty Wg C S O w1 w2):Rly ty Wg C S O w w2:=by
 refine⟨Nat.le_trans h.size k.size,h.calm.trans k.calm,fun b hb=>(k.blk b hb).trans (h.blk b hb),fun cs t m hc=>?_,fun x=>k.live (h.live x)⟩
 obtain⟨cs',h1,h2,h3⟩:=h.pay cs t m hc
 obtain⟨cs2,k1,k2,k3⟩:=k.pay cs' t m h1
 exact⟨cs2,k1,k2.trans h2,fun o ho=>(k3 o ho).trans (h3 o ho)⟩
theorem Rly.at (w:World) (d:Nat):Rly ty Wg C S O w (w.at d):=⟨Nat.le_refl _,Calm.at w d,fun _ _=>rfl,fun cs _ _ h=>⟨cs,h,rfl,fun _ _=>rfl⟩,id⟩
theorem Rly.rw[Payload] (n k:Nat) (h:Rly ty Wg C S O w w1) (hk:O (k-1)) (hC:∃ cs t m,w.heap[C]?=some (.cells cs t m)):RW ty Wg C n 0 (k-1) w w1:=by
 refine⟨fun b hb=>by omega,h.live,?_,?_⟩
 ·rintro⟨cs,h1,h2⟩
  obtain⟨cs',k1,k2,_⟩:=h.pay _ _ _ h1
  exact⟨cs',k1,k2.trans h2⟩
 ·obtain⟨cs,t,m,h1⟩:=hC
  obtain⟨cs',k1,_,k3⟩:=h.pay _ _ _ h1
  simp only[World.cell?,h1,k1,Option.isSome_none,Bool.false_eq_true,if_false]
  exact k3 _ hk
end
def locB:Loc→Option Nat
 | .cell a=>some a.block
 | .obj r=>some r
 | _=>none
structure EvG (C:Nat) (W R:Nat→Prop) (O:Nat→Prop) (N:Nat) (e:Event):Prop where
 touch:∀ x,(MemAct.ofEvent e).touch?=some x→(∃ b,locB x.loc=some b∧(W b∨(x.write=false∧R b)))∨∃ a,x.loc=.cell a∧a.block=C∧O a.off
 still:e.loc≠.mark .disable∧e.loc≠.mark .enable
 norel:∀ a,e.loc≠.mark (.release a)
 low:(MemAct.ofEvent e).low N
structure Gua (C:Nat) (W R O:Nat→Prop) (w w1:World) (es:Array Event):Prop where
 size:w.heap.size≤w1.heap.size
 calm:Calm w w1
 blk:∀ b,b<w.heap.size→¬ W b→b≠C→w1.heap[b]?=w.heap[b]?
 pay:∀ cs t m,w.heap[C]?=some (.cells cs t m)→∃ cs',w1.heap[C]?=some (.cells cs' t m)∧cs'.size=cs.size∧∀ o,¬ O o→cs'[o]?=cs[o]?
 evs:∀ e∈es,EvG C (fun b=>W b∨fresh w w1 b) R O w1.heap.size e
structure Wkr (P:Program) [Payload] (ty:TypeId) (Wg C nC:Nat) (cl:Nat→Nat→Prop) (kw:Nat→Nat) where
 Γ : Type
 r : Γ→Γ→Prop
 z : Γ
 hz:Acc r z
 Sit:Nat→Γ→(Pr Sd:Nat→Prop)→Goroutine→World→Prop
 Res:Nat→(Pr Sd:Nat→Prop)→World→Prop
 acc:∀ {i γ Pr Sd g w},Sit i γ Pr Sd g w→Acc r γ
 rely:∀ {i γ Pr Sd g w w1},Sit i γ Pr Sd g w→Rly ty Wg C (fun b=>Pr b∨Sd b) (cl i) w w1→Sit i γ Pr Sd g w1
 keep:∀ {i Pr Sd w w1},Res i Pr Sd w→Rly ty Wg C (fun b=>Pr b∨Sd b) (cl i) w w1→Res i Pr Sd w1
 run:∀ {i γ Pr Sd g w},Sit i γ Pr Sd g w→g.status=.running
 step:∀ {i γ Pr Sd g w},Sit i γ Pr Sd g w→WgLive ty Wg w→(∃ cs t m,w.heap[C]?=some (.cells cs t m)) →
  (∃ γ' g' w' es,stepG P false g w=.go g' w' es∧r γ' γ∧Gua C Pr Sd (cl i) w w' es∧Sit i γ' (fun b=>Pr b∨fresh w w' b) Sd g' w') ∨
  (Res i Pr Sd w∧∃ g',stepG P false g w=.go g' w #[mk (.releaseMerge (stA Wg))]∧∃ m,Goes P false (RW ty Wg C nC 0 (kw i-1)) DC0 (AtK1 P ty Wg C nC 0 (kw i)) m g' w)
section
variable (P:Program) (ty:TypeId) (Wg C n:Nat)
abbrev RM (ty:TypeId) (Wg C:Nat) (V:Nat→Prop):World→World→Prop:=Rly ty Wg C V (fun _=>False)
def DM (Wg:Nat) (w w1:World) (es:Array Event):Prop:=w1=w∧∀ e∈es,∃ a:Addr,a.block=Wg∧(e=⟨.mark (.read a),false,true⟩∨e=⟨.mark (.write a),false,true⟩)
abbrev GG (V:Nat→Prop):=Goes P true (RM ty Wg C V) (DM Wg)
def Run (Stop:(V M:Nat→Prop)→Goroutine→World→Prop):Nat→(V M:Nat→Prop)→Goroutine→World→Prop
 | 0,V,M,g,w=>∀ w1,RM ty Wg C V w w1→Stop V M g w1
 | k+1,V,M,g,w=>(∀ w1,RM ty Wg C V w w1→Stop V M g w1)∨(g.status=.running∧∀ w1,RM ty Wg C V w w1→∃ g' w' es,stepG P true g w1=.go g' w' es∧Gua C M V (fun _=>False) w1 w' es ∧
   Run Stop k (fun b=>V b∨fresh w1 w' b) (fun b=>M b∨fresh w1 w' b) g' w')
variable (Born:Nat→(V:Nat→Prop)→Goroutine→World→Prop)
section
variable (j:Nat) (Next:(V M:Nat→Prop)→Goroutine→World→Prop)
def AtGo (V:Nat→Prop) (g:Goroutine) (w:World):Prop:=
 g.status=.running∧∃ g' child,stepG P true g w=.spawn g' child w #[]∧Born j V child w∧Next V (fun _=>False) g' w
def AtKe (V:Nat→Prop) (g:Goroutine) (w:World):Prop:=
 g.status=.running∧∃ g',stepG P true g w=.go g' w #[mk .enable]∧∃ m,GG P ty Wg C V (AtGo P Born j Next V) m g' w
def AtA1 (V:Nat→Prop) (g:Goroutine) (w:World):Prop:=
 g.status=.running∧∀ v:Nat,v<2147483647→WgAt ty Wg w (v*KK) 0 →
  ∃ g',stepG P true g w=.go g' (w.setCell (stA Wg) (.int .u64 ((v+1)*KK))) #[rd (stA Wg),wr (stA Wg)]∧∃ m,GG P ty Wg C V (AtKe P ty Wg C Born j Next V) m g' (w.setCell (stA Wg) (.int .u64 ((v+1)*KK)))
def AtKd (V _M:Nat→Prop) (g:Goroutine) (w:World):Prop:=
 g.status=.running∧∃ g',stepG P true g w=.go g' w #[mk .disable]∧∃ m,GG P ty Wg C V (AtA1 P ty Wg C Born j Next V) m g' w
end
def YE (Fin:(V M:Nat→Prop)→Goroutine→World→Prop):Nat→(V M:Nat→Prop)→Goroutine→World→Prop
 | 0,V,M,g,w=>Fin V M g w
 | r+1,V,M,g,w=>∃ m,Run P ty Wg C (AtKd P ty Wg C Born (n-(r+1)) (YE Fin r)) m V M g w
section
variable (Anch Out:(V:Nat→Prop)→Goroutine→World→Prop) (V:Nat→Prop)
def AtAcq (g:Goroutine) (w:World):Prop:=
 g.status=.running∧∃ g',stepG P true g w=.go g' w #[mk (.acquire (stA Wg))]∧∃ m,GG P ty Wg C V (fun g w=>g.status=.running∧Out V g w) m g' w
def AtEn (g:Goroutine) (w:World):Prop:=
 g.status=.running∧∃ g',stepG P true g w=.go g' w #[mk .enable]∧∃ m,GG P ty Wg C V (AtAcq P ty Wg C Out V) m g' w
def AtW4 (g:Goroutine) (w:World):Prop:=
 g.status=.running∧(WgAt ty Wg w 0 0→∃ g',stepG P true g w=.go g' w #[rd (stA Wg)]∧∃ m,GG P ty Wg C V (AtEn P ty Wg C Out V) m g' w)
def AtW3 (g:Goroutine) (w:World):Prop:=
 g.status=.running∧g.offers=none∧((∃ st,WgAt ty Wg w st 0)→stepG P true g w=.go { g with status:=.blocked } w #[]) ∧
  (WgAt ty Wg w 0 1→∃ g',stepG P true g w=.go g' (w.setCell (smA Wg) (.int .u32 0)) (semEvents (smA Wg))∧∃ m,GG P ty Wg C V (AtW4 P ty Wg C Out V) m g' (w.setCell (smA Wg) (.int .u32 0)))
def AtW2 (vs:Nat) (g:Goroutine) (w:World):Prop:=
 g.status=.running∧∀ v:Nat,v<2147483648→WgAt ty Wg w (v*KK) 0 →
  (v=vs→∃ g',stepG P true g w=.go g' (w.setCell (stA Wg) (.int .u64 (v*KK+1))) #[rd (stA Wg),wr (stA Wg)]∧∃ m,GG P ty Wg C V (AtW3 P ty Wg C Out V) m g' (w.setCell (stA Wg) (.int .u64 (v*KK+1)))) ∧
  (v≠vs→∃ g',stepG P true g w=.go g' w #[rd (stA Wg)]∧∃ m,GG P ty Wg C V (Anch V) m g' w)
def AtW1 (g:Goroutine) (w:World):Prop:=
 g.status=.running∧∀ v:Nat,v<2147483648→WgAt ty Wg w (v*KK) 0→∃ g',stepG P true g w=.go g' w #[rd (stA Wg)] ∧
  (v=0→∃ m,GG P ty Wg C V (AtEn P ty Wg C Out V) m g' w)∧(v≠0→∃ m,GG P ty Wg C V (AtW2 P ty Wg C Anch Out V v) m g' w)
def AtWd (_M:Nat→Prop) (g:Goroutine) (w:World):Prop:=
 g.status=.running∧∃ g',stepG P true g w=.go g' w #[mk .disable]∧∃ m,GG P ty Wg C V (Anch V) m g' w
end
def Fin (Anch:(V:Nat→Prop)→Goroutine→World→Prop) (V M:Nat→Prop) (g:Goroutine) (w:World):Prop:=∃ m,Run P ty Wg C (AtWd P ty Wg C Anch) m V M g w
end
end
section
open Go.Conc (Deaf Leavers Knows touchAt QuitsD Goes semEvents NoRelease woken)
open Go.ConcN (CT Ok0 OkW Apart sumTo upd WD CTag Mode Vc Ssum Fsum cnt pend phi WSit RW AtK1 WgLive RelBy)
open Go.ConcR (KK WgAt stA smA rd wr mk Payload DC0)
section
variable (P:Program) (ty:TypeId) (Wg C n:Nat) (Born:Nat→(V:Nat→Prop)→Goroutine→World→Prop) (Anch Out:(V:Nat→Prop)→Goroutine→World→Prop)
inductive MSit:CTag→Nat→(V M:Nat→Prop)→Nat→Nat→Goroutine→World→Prop
 | skd {r m V M g w} : r<n→Run P ty Wg C (AtKd P ty Wg C Born (n-(r+1)) (YE P ty Wg C n Born (Fin P ty Wg C Anch) r)) m V M g w→MSit (.sp r 5) (n-(r+1)) V M m 0 g w
 | sa1 {r m V M g w} : r<n→GG P ty Wg C V (AtA1 P ty Wg C Born (n-(r+1)) (YE P ty Wg C n Born (Fin P ty Wg C Anch) r) V) m g w→MSit (.sp r 4) (n-(r+1)) V M m 1 g w
 | ske {r m V M g w} : r<n→GG P ty Wg C V (AtKe P ty Wg C Born (n-(r+1)) (YE P ty Wg C n Born (Fin P ty Wg C Anch) r) V) m g w→MSit (.sp r 3) (n-(r+1)) V M m 1 g w
 | sgo {r m V M g w} : r<n→GG P ty Wg C V (AtGo P Born (n-(r+1)) (YE P ty Wg C n Born (Fin P ty Wg C Anch) r) V) m g w→MSit (.sp r 2) (n-(r+1)) V M m 0 g w
 | kd {m V M g w} : Run P ty Wg C (AtWd P ty Wg C Anch) m V M g w→MSit .kd n V M m 0 g w
 | anch {m V M g w} : GG P ty Wg C V (Anch V) m g w→MSit .anch n V M m 1 g w
 | w1 {m V M g w} : GG P ty Wg C V (AtW1 P ty Wg C Anch Out V) m g w→MSit .w1 n V M m 1 g w
 | w2 {vs m V M g w} : GG P ty Wg C V (AtW2 P ty Wg C Anch Out V vs) m g w→MSit (.w2 vs) n V M m 1 g w
 | w3 {m V M g w} : GG P ty Wg C V (AtW3 P ty Wg C Out V) m g w→MSit .w3 n V M (m+1) 1 g w
 | blk {V M g w} : (∀ w1,RM ty Wg C V w w1→AtW3 P ty Wg C Out V g w1)→MSit .blk n V M 0 1 { g with status:=.blocked } w
 | w4 {m V M g w} : GG P ty Wg C V (AtW4 P ty Wg C Out V) m g w→MSit .w4 n V M m 1 g w
 | ke {m V M g w} : GG P ty Wg C V (AtEn P ty Wg C Out V) m g w→MSit .ke n V M m 1 g w
 | acq {m V M g w} : GG P ty Wg C V (AtAcq P ty Wg C Out V) m g w→MSit .acq n V M m 0 g w
 | ret {m V M g w} : GG P ty Wg C V (fun g w=>g.status=.running∧Out V g w) m g w→MSit .ret n V M m 0 g w
end
section
variable {P:Program} {ty:TypeId} {Wg C n:Nat} {Born:Nat→(V:Nat→Prop)→Goroutine→World→Prop} {Anch Out:(V:Nat→Prop)→Goroutine→World→Prop}
 {tag:CTag} {j f d:Nat} {V M:Nat→Prop} {a:Goroutine} {w w':World}
theorem Run.rely {Stop:(V M:Nat→Prop)→Goroutine→World→Prop} : ∀ {k:Nat} {V M:Nat→Prop} {g:Goroutine} {w w':World},Run P ty Wg C Stop k V M g w→RM ty Wg C V w w'→Run P ty Wg C Stop k V M g w'
 | 0,_,_,_,_,_,h,hr=>fun w1 h1=>h w1 (hr.trans h1)
 | _+1,_,_,_,_,_,h,hr=>h.imp (fun x w1 h1=>x w1 (hr.trans h1)) fun x=>⟨x.1,fun w1 h1=>x.2 w1 (hr.trans h1)⟩
theorem Run.running {Stop:(V M:Nat→Prop)→Goroutine→World→Prop} (hs:∀ V M g w,Stop V M g w→g.status=.running):∀ {k:Nat} {V M:Nat→Prop} {g:Goroutine} {w:World},Run P ty Wg C Stop k V M g w→g.status=.running
 | 0,_,_,_,_,h=>hs _ _ _ _ (h _ (.refl _))
 | _+1,_,_,_,_,h=>h.elim (fun x=>hs _ _ _ _ (x _ (.refl _))) fun x=>x.1
theorem GG.rely {Stop:Goroutine→World→Prop} {m:Nat} (h:GG P ty Wg C V Stop m a w) (hr:RM ty Wg C V w w'):GG P ty Wg C V Stop m a w':=Goes.rely (fun _ _ _ x y=>x.trans y) h hr
theorem MSit.rely (h:MSit P ty Wg C n Born Anch Out tag j V M f d a w) (hr:RM ty Wg C V w w'):MSit P ty Wg C n Born Anch Out tag j V M f d a w':=by
 cases h with
 | skd hn h=>exact .skd hn (h.rely hr)
 | sa1 hn h=>exact .sa1 hn (GG.rely h hr)
 | ske hn h=>exact .ske hn (GG.rely h hr)
 | sgo hn h=>exact .sgo hn (GG.rely h hr)
 | kd h=>exact .kd (h.rely hr)
 | anch h=>exact .anch (GG.rely h hr)
 | w1 h=>exact .w1 (GG.rely h hr)
 | w2 h=>exact .w2 (GG.rely h hr)
 | w3 h=>exact .w3 (GG.rely h hr)
 | blk h=>exact .blk fun w1 h1=>h w1 (hr.trans h1)
 | w4 h=>exact .w4 (GG.rely h hr)
 | ke h=>exact .ke (GG.rely h hr)
 | acq h=>exact .acq (GG.rely h hr)
 | ret h=>exact .ret (GG.rely h hr)
theorem GG.running {Stop:Goroutine→World→Prop} (hs:∀ g w,Stop g w→g.status=.running) {m:Nat} (h:GG P ty Wg C V Stop m a w):a.status=.running:=Goes.running hs w (.refl w) h
theorem MSit.status (hAr:∀ V g w,Anch V g w→g.status=.running) (h:MSit P ty Wg C n Born Anch Out tag j V M f d a w):(a.status=.running∧tag≠.blk)∨(a.status=.blocked∧tag=.blk):=by
 cases h with
 | skd _ h=>exact .inl ⟨Run.running (fun _ _ _ _ x=>x.1) h,by simp⟩
 | sa1 _ h=>exact .inl ⟨GG.running (fun _ _ x=>x.1) h,by simp⟩
 | ske _ h=>exact .inl ⟨GG.running (fun _ _ x=>x.1) h,by simp⟩
 | sgo _ h=>exact .inl ⟨GG.running (fun _ _ x=>x.1) h,by simp⟩
 | kd h=>exact .inl ⟨Run.running (fun _ _ _ _ x=>x.1) h,by simp⟩
 | anch h=>exact .inl ⟨GG.running (hAr _) h,by simp⟩
 | w1 h=>exact .inl ⟨GG.running (fun _ _ x=>x.1) h,by simp⟩
 | w2 h=>exact .inl ⟨GG.running (fun _ _ x=>x.1) h,by simp⟩
 | w3 h=>exact .inl ⟨GG.running (fun _ _ x=>x.1) h,by simp⟩
 | blk h=>exact .inr ⟨rfl,rfl⟩
 | w4 h=>exact .inl ⟨GG.running (fun _ _ x=>x.1) h,by simp⟩
 | ke h=>exact .inl ⟨GG.running (fun _ _ x=>x.1) h,by simp⟩
 | acq h=>exact .inl ⟨GG.running (fun _ _ x=>x.1) h,by simp⟩
 | ret h=>exact .inl ⟨GG.running (fun _ _ x=>x.1) h,by simp⟩
theorem MSit.wokenBy (hAr:∀ V g w,Anch V g w→g.status=.running) (h:MSit P ty Wg C n Born Anch Out tag j V M f d a w) (hr:RM ty Wg C V w w') (g g':Goroutine) :
  ∃ tag' f',MSit P ty Wg C n Born Anch Out tag' j V M f' d (woken P g g' w' a) w'∧f'≤f+1∧(tag'=tag∨(tag=.blk∧tag'=.w3))∧(mayWake P g=true→g'.status=.running→tag'≠.blk):=by
 have h':=h.rely hr
 unfold Go.Conc.woken
 split
 ·rcases h'.status hAr with ⟨hs,hne⟩|⟨_,rfl⟩
  ·exact⟨tag,f,by rw[Go.Conc.again_running _ (.inl hs)];exact h',by omega,.inl rfl,fun _ _=>hne⟩
  ·cases h' with
   | blk hb =>
    have h3:=hb w' (.refl w')
    exact⟨.w3,0+1,by rw[Go.ConcR.again_blocked h3.1 h3.2.1];exact .w3 (Goes.stop hb),by omega,.inr ⟨rfl,rfl⟩,fun _ _=>by simp⟩
 ·rename_i hc
  exact⟨tag,f,h',by omega,.inl rfl,fun h1 h2=>absurd (by simp[h1,h2]) hc⟩
theorem MSit.bound (h:MSit P ty Wg C n Born Anch Out tag j V M f d a w):j+pend tag≤n:=by
 cases h<;>simp only[pend]<;>(try simp)<;>omega
end
structure Gh (Γ : Type) where
 j:Nat
 D:Nat→WD
 γ : Nat→Γ
 Pr:Nat→Nat→Prop
 Sd:Nat→Nat→Prop
 V:Nat→Prop
 M:Nat→Prop
structure Geo {Γ : Type} (Wg C n:Nat) (Sb:Nat→Prop) (G:Gh Γ) (w:World):Prop where
 jn:G.j≤n
 v:∀ b,G.V b→b<w.heap.size∧b≠C∧b≠Wg∧¬ Sb b
 m:∀ b,G.M b→G.V b
 pr:∀ i b,i<G.j→G.Pr i b→b<w.heap.size∧b≠C∧b≠Wg∧¬ Sb b∧¬ G.V b
 dis:∀ i i' b,i<G.j→i'<G.j→G.Pr i b→G.Pr i' b→i=i'
 sd:∀ i b,i<G.j→G.Sd i b→G.V b∧¬ G.M b
 old:∀ b,(b=C∨b=Wg∨Sb b)→b<w.heap.size
 cw:C≠Wg
 cs:¬ Sb C
section
variable {Γ : Type} (Wg C k0:Nat) (cl:Nat→Nat→Prop) (Sb:Nat→Prop) (G:Gh Γ)
def OwnF (k:Nat) (l:Loc):Prop:=∃ i,i<G.j∧k=k0+i∧((∃ b,locB l=some b∧G.Pr i b)∨∃ a,l=.cell a∧a.block=C∧cl i a.off)
def RdF (k:Nat) (l:Loc):Prop:=∃ i,i<G.j∧k=k0+i∧∃ b,locB l=some b∧G.Sd i b
abbrev ShF:Loc→Prop:=ShB (fun b=>Sb b∨b=Wg)
end
section
variable {Γ : Type} {Wg C k0 n:Nat} {cl:Nat→Nat→Prop} {Sb:Nat→Prop} {G:Gh Γ} {w:World}
theorem Geo.apart (h:Geo Wg C n Sb G w) (hcl:∀ i i' o,cl i o→cl i' o→i=i'):Apart (ShF Wg Sb) (OwnF C k0 cl G) (RdF k0 G):=by
 refine⟨?_,?_,?_,?_⟩
 ·rintro k k' l ⟨i,hi,rfl,h1⟩ ⟨i',hi',rfl,h2⟩
  have:i=i':=by
   rcases h1 with ⟨b,hb,hp⟩|⟨a,rfl,ha,ho⟩<;>rcases h2 with ⟨b',hb',hp'⟩|⟨a',ha',hac,ho'⟩
   ·rw[hb] at hb';cases hb';exact h.dis i i' _ hi hi' hp hp'
   ·subst ha';cases hb;exact absurd hac (h.pr i _ hi hp).2.1
   ·cases hb';exact absurd ha (h.pr i' _ hi' hp').2.1
   ·cases ha';exact hcl _ _ _ ho ho'
  rw[this]
 ·rintro k k' l ⟨i,hi,rfl,h1⟩ ⟨i',hi',rfl,b',hb',hs⟩
  have hv:=(h.sd i' b' hi' hs).1
  rcases h1 with ⟨b,hb,hp⟩|⟨a,rfl,ha,ho⟩
  ·rw[hb] at hb';cases hb';exact (h.pr i _ hi hp).2.2.2.2 hv
  ·cases hb';exact (h.v _ hv).2.1 ha
 ·rintro k l ⟨i,hi,rfl,h1⟩ ⟨a,rfl,hs⟩
  rcases h1 with ⟨b,hb,hp⟩|⟨a',ha',hac,ho⟩
  ·cases hb
   have:=h.pr i _ hi hp
   exact hs.elim this.2.2.2.1 this.2.2.1
  ·cases ha'
   rw[hac] at hs
   exact hs.elim h.cs h.cw
 ·rintro k l ⟨i,hi,rfl,b,hb,hs⟩ ⟨a,rfl,hs'⟩
  cases hb
  have:=h.v _ (h.sd i _ hi hs).1
  exact hs'.elim this.2.2.2 this.2.2.1
end
structure RelX (Wg:Nat) (Sb:Nat→Prop) (t:Trace) (k r:Nat):Prop where
 rel:RelBy (stA Wg) t k r
 past:∀ (i:Nat) (op:MemOp) (x:Touch),t[i]?=some op→op.g=k→op.act.touch?=some x→¬ ShF Wg Sb x.loc→i<r
theorem RelX.appNot {Wg:Nat} {Sb:Nat→Prop} {t u:Trace} {k r:Nat} (h:RelX Wg Sb t k r) (hu:∀ op∈u,op.g≠k):RelX Wg Sb (t++u) k r:=by
 refine⟨h.rel.appNot hu,fun i op x hi hg hx hs=>?_⟩
 rcases Go.Conc.getElem?_append_cases hi with ⟨_,hi'⟩|⟨_,hiu⟩
 ·exact h.past i op x hi' hg hx hs
 ·exact absurd hg (hu op hiu)
theorem RelX.appOther {Wg:Nat} {Sb:Nat→Prop} {t u:Trace} {k r g:Nat} (h:RelX Wg Sb t k r) (hu:∀ op∈u,op.g=g) (hg:g≠k):RelX Wg Sb (t++u) k r:=h.appNot fun op hop e=>hg ((hu op hop).symm.trans e)
theorem RelX.book {Wg:Nat} {Sb:Nat→Prop} {t:Trace} {k r d:Nat} (h:RelX Wg Sb t k r) (hdk:Deaf t k=d) (fn:FuncId) (pos:String) {es:Array Event} (hes:∀ e∈es,Go.ConcR.Bk Wg e)
  (hd:∀ j e,es[j]?=some e→(MemAct.ofEvent e).touch?=none∨0<deafBehind d (es.extract 0 j)):RelX Wg Sb (t++MemOp.ofEvents k fn pos es) k r:=by
 refine⟨h.rel.book hdk fn pos hes hd,fun i op x hi hg hx hs=>?_⟩
 rcases Go.Conc.getElem?_append_cases hi with ⟨_,hi'⟩|⟨_,hiu⟩
 ·exact h.past i op x hi' hg hx hs
 ·obtain⟨e,he,rfl⟩:=Go.Conc.mem_ofEvents hiu
  rcases hes e he with h1|h1|⟨a,wr,rfl,hab⟩
  ·rw[show (MemAct.ofEvent e).touch?=none by rw[Go.ConcR.ofEvent_loc_mark h1];rfl] at hx;cases hx
  ·rw[show (MemAct.ofEvent e).touch?=none by rw[Go.ConcR.ofEvent_loc_mark h1];rfl] at hx;cases hx
  ·rw[Go.ConcR.ofEvent_cell] at hx
   simp only[MemAct.touch?,Option.some.injEq] at hx
   subst hx
   exact absurd ⟨a,rfl,.inr hab⟩ hs
theorem RelX.new {Wg:Nat} {Sb:Nat→Prop} {t:Trace} {k:Nat} (hd:Deaf t k=0) (fn:FuncId) (pos:String):RelX Wg Sb (t++MemOp.ofEvents k fn pos #[Go.ConcR.mk (.releaseMerge (stA Wg))]) k t.size:=by
 refine⟨Go.ConcN.RelBy.new hd fn pos,fun i op x hi hg hx hs=>?_⟩
 rcases Go.Conc.getElem?_append_cases hi with ⟨hlt,_⟩|⟨_,hiu⟩
 ·exact hlt
 ·obtain⟨e,he,rfl⟩:=Go.Conc.mem_ofEvents hiu
  simp only[List.mem_toArray,List.mem_cons,List.not_mem_nil,or_false] at he
  subst he
  simp[MemAct.ofEvent,Go.ConcR.mk,MemAct.touch?] at hx
theorem zen {Sh:Loc→Prop} {Own Rd Own' Rd':Nat→Loc→Prop} {t:Trace} {j:Nat} (h:CT Sh Own Rd t j) (h1:∀ k l,1≤k→k≤j→Own k l→Own' k l) (h2:∀ k l,1≤k→k≤j→(Rd' k l↔Rd k l))
  (h3:∀ k l,1≤k→k≤j→Own' k l→Own k l∨∀ i a,touchAt t i=some a→a.loc≠l):CT Sh Own' Rd' t j:=by
 refine⟨h.quiet,fun k k1 kj l hl=>?_,fun k k1 kj l hl=>h.rd k k1 kj l ((h2 k l k1 kj).1 hl),fun l hs hl=>h.free l hs fun k k1 kj=>⟨fun x=>(hl k k1 kj).1 (h1 k l k1 kj x),fun x=>(hl k k1 kj).2 ((h2 k l k1 kj).2 x)⟩,
  fun l hs hl=>h.mine l hs fun k k1 kj x=>hl k k1 kj (h1 k l k1 kj x),h.nr,h.gs⟩
 rcases h3 k l k1 kj hl with x|x
 ·exact h.own k k1 kj l x
 ·exact fun i a ha e=>absurd e (x i a ha)
theorem untouched {t:Trace} {N:Nat} (h:∀ op∈t,op.act.low N) {l:Loc} {b:Nat} (hb:locB l=some b) (hN:N≤b):∀ i a,touchAt t i=some a→a.loc≠l:=by
 rintro i a ha rfl
 obtain⟨op,ho,hox⟩:=Go.Conc.touch_of ha
 have hl:=h op (Array.mem_of_getElem? ho)
 obtain⟨loc,wr,kd⟩:=a
 simp only at hb
 cases hact:op.act with
 | access e =>
  rw[hact] at hox hl
  simp only[MemAct.touch?,Option.some.injEq] at hox
  obtain⟨el,ew,es⟩:=e
  cases hox
  cases el<;>simp[locB] at hb<;>subst hb<;>exact absurd hl (Nat.not_lt.2 hN)
 | mark m =>
  rw[hact] at hox hl
  cases m<;>simp[MemAct.touch?] at hox<;>obtain⟨rfl,_⟩:=hox<;>simp[locB] at hb<;>subst hb<;>exact absurd hl (Nat.not_lt.2 hN)
 | _=>rw[hact] at hox;cases hox
end
section
open Go.Conc (Deaf Leavers Knows touchAt QuitsD Goes semEvents NoRelease woken crowd)
open Go.ConcN (CT Ok0 OkW Apart sumTo upd upd_same upd_ne WD CTag Mode Vc Ssum Fsum cnt pend phi WSit RW AtK1 WgLive RelBy)
open Go.ConcR (KK WgAt stA smA rd wr mk Payload DC0 g_of_ofEvents)
section
variable {P:Program} [Payload] {ty:TypeId} {Wg C nC:Nat} {cl:Nat→Nat→Prop} {kw:Nat→Nat} (W:Wkr P ty Wg C nC cl kw)
def SitW (i:Nat) (d:WD) (γ : W.Γ) (Pr Sd:Nat→Prop) (g:Goroutine) (w:World):Prop:=
 (d.stage=7∧d.deaf=0∧W.Sit i γ Pr Sd g w)∨(d.stage≤6∧WSit P ty Wg C nC NoL NoL 0 (kw i) undef d.stage d.fuel d.deaf g w∧W.Res i Pr Sd w)
variable (n k0:Nat) (Sb:Nat→Prop) (K:Nat→Prop) (w1:World)
structure Com (G:Gh W.Γ) (gs:Array Goroutine) (w:World) (t:Trace) (d0:Nat) (q:Nat→Nat):Prop where
 size:gs.size=k0+G.j
 lv:∀ i g,0<i→i<k0→gs[i]?=some g→QuitsD P (q i) (Deaf t i) g
 wk:∀ i,i<G.j→∃ g,gs[k0+i]?=some g∧SitW W i (G.D i) (G.γ i) (G.Pr i) (G.Sd i) g w
 geo:Geo Wg C n Sb G w
 ct:CT (ShF Wg Sb) (OwnF C k0 cl G) (RdF k0 G) t (k0+G.j-1)
 norel:NoRelease (stA Wg) t
 deaf0:Deaf t 0=d0
 deafW:∀ i,i<G.j→Deaf t (k0+i)=(G.D i).deaf
 rel:∀ i,i<G.j→(G.D i).stage≤6→∃ r,RelX Wg Sb t (k0+i) r
 kn:∀ (i:Nat) (op:MemOp) (x:Touch),t[i]?=some op→op.g<k0→op.act.touch?=some x→¬ ShF Wg Sb x.loc→Knows t 0 i
 over:∀ i g,t.g? i=some g→g≠0→g<k0→t.counts i→∃ j,t.g? j=some 0∧HappensBefore t i j
 low:∀ op∈t,op.act.low w.heap.size
 row:∃ cs t m,w.heap[C]?=some (.cells cs t m)
 keep:∀ b,K b→G.V b∧¬ G.M b∧w.heap[b]?=w1.heap[b]?
 calm:Calm w1 w
 grow:w1.heap.size≤w.heap.size
end
section
variable {P:Program} [Payload] {ty:TypeId} {Wg C nC:Nat} {cl:Nat→Nat→Prop} {kw:Nat→Nat} {W:Wkr P ty Wg C nC cl kw} {n k0:Nat} {Sb:Nat→Prop} {K:Nat→Prop} {w1:World}
 {G:Gh W.Γ} {gs:Array Goroutine} {w w':World} {t:Trace} {d0:Nat} {q:Nat→Nat} {i:Nat} {d:WD} {γ : W.Γ} {Pr Sd:Nat→Prop} {g g':Goroutine} {es:Array Event}
theorem SitW.rely (hkw:∀ i,cl i (kw i-1)) (hrow:∃ cs t m,w.heap[C]?=some (.cells cs t m)) (h:SitW W i d γ Pr Sd g w) (hr:Rly ty Wg C (fun b=>Pr b∨Sd b) (cl i) w w'):SitW W i d γ Pr Sd g w':=by
 rcases h with ⟨h1,h2,h3⟩|⟨h1,h2,h3⟩
 ·exact .inl ⟨h1,h2,W.rely h3 hr⟩
 ·exact .inr ⟨h1,h2.rely (hr.rw nC (kw i) (hkw i) hrow),W.keep h3 hr⟩
theorem SitW.status (h:SitW W i d γ Pr Sd g w):g.status=.running∨g.status=.finished:=by
 rcases h with ⟨_,_,h3⟩|⟨_,h2,_⟩
 ·exact .inl (W.run h3)
 ·exact h2.status
theorem SitW.woken (h:SitW W i d γ Pr Sd g w) (a a':Goroutine) (v:World):woken P a a' v g=g:=by
 unfold Go.Conc.woken
 split
 ·exact Go.Conc.again_running _ h.status
 ·rfl
structure Else (ty:TypeId) (Wg C:Nat) (X O:Nat→Prop) (w w':World):Prop where
 size:w.heap.size≤w'.heap.size
 calm:Calm w w'
 blk:∀ b,b<w.heap.size→¬ X b→b≠C→b≠Wg→w'.heap[b]?=w.heap[b]?
 pay:∀ cs t m,w.heap[C]?=some (.cells cs t m)→∃ cs',w'.heap[C]?=some (.cells cs' t m)∧cs'.size=cs.size∧∀ o,¬ O o→cs'[o]?=cs[o]?
 live:WgLive ty Wg w→WgLive ty Wg w'
omit [Payload] in
theorem Else.rly {X O S O':Nat→Prop} (h:Else ty Wg C X O w w') (hS:∀ b,S b→b<w.heap.size∧¬ X b∧b≠C∧b≠Wg) (hO:∀ o,O' o→¬ O o):Rly ty Wg C S O' w w':=
 ⟨h.size,h.calm,fun b hb=>h.blk b (hS b hb).1 (hS b hb).2.1 (hS b hb).2.2.1 (hS b hb).2.2.2,fun cs t m hc=>let ⟨cs',h1,h2,h3⟩:=h.pay cs t m hc;⟨cs',h1,h2,fun o ho=>h3 o (hO o ho)⟩,h.live⟩
omit [Payload] in
theorem Gua.else {X R O:Nat→Prop} (h:Gua C X R O w w' es) (hx:¬ X Wg) (hcw:C≠Wg) (hw:Wg<w.heap.size):Else ty Wg C X O w w':=
 ⟨h.size,h.calm,fun b hb hn hc _=>h.blk b hb hn hc,h.pay,fun ⟨st,sm,hl⟩=>⟨st,sm,hl.of_block (h.blk Wg hw hx (Ne.symm hcw))⟩⟩
def Gh.stepW {Γ : Type} (G:Gh Γ) (i:Nat) (d:WD) (γ : Γ) (w w':World):Gh Γ:={ G with D:=upd G.D i d,γ:=upd G.γ i γ,Pr:=upd G.Pr i (fun b=>G.Pr i b∨fresh w w' b) }
theorem Geo.stepW (h:Geo Wg C n Sb G w) (hsz:w.heap.size≤w'.heap.size) (hi:i<G.j) (d:WD) (γ : W.Γ):Geo Wg C n Sb (G.stepW i d γ w w') w':=by
 have old:∀ b,(b=C∨b=Wg∨Sb b)→b<w.heap.size:=h.old
 have new:∀ b,fresh w w' b→b<w'.heap.size∧b≠C∧b≠Wg∧¬ Sb b∧¬ G.V b:=fun b hb =>
  ⟨hb.2,fun e=>by have:=old b (.inl e);have:=hb.1;omega,fun e=>by have:=old b (.inr (.inl e));have:=hb.1;omega,fun e=>by have:=old b (.inr (.inr e));have:=hb.1;omega,fun e=>by have:=(h.v b e).1;have:=hb.1;omega⟩
 refine⟨h.jn,fun b hb=>⟨Nat.lt_of_lt_of_le (h.v b hb).1 hsz,(h.v b hb).2⟩,h.m,fun a b ha hb=>?_,fun a a' b ha ha' hb hb'=>?_,h.sd,fun b hb=>Nat.lt_of_lt_of_le (h.old b hb) hsz,h.cw,h.cs⟩
 ·have hb':upd G.Pr i (fun b=>G.Pr i b∨fresh w w' b) a b:=hb
  by_cases e:a=i
  ·subst e
   rw[upd_same] at hb'
   rcases hb' with x|x
   ·have:=h.pr a b ha x;exact⟨Nat.lt_of_lt_of_le this.1 hsz,this.2⟩
   ·exact new b x
  ·rw[upd_ne _ _ e] at hb'
   have:=h.pr a b ha hb'
   exact⟨Nat.lt_of_lt_of_le this.1 hsz,this.2⟩
 ·have hb1:upd G.Pr i (fun b=>G.Pr i b∨fresh w w' b) a b:=hb
  have hb2:upd G.Pr i (fun b=>G.Pr i b∨fresh w w' b) a' b:=hb'
  by_cases e:a=i<;>by_cases e':a'=i
  ·exact e.trans e'.symm
  ·subst e
   rw[upd_same] at hb1
   rw[upd_ne _ _ e'] at hb2
   rcases hb1 with x|x
   ·exact h.dis a a' b ha ha' x hb2
   ·have:=(h.pr a' b ha' hb2).1;have:=x.1;omega
  ·subst e'
   rw[upd_same] at hb2
   rw[upd_ne _ _ e] at hb1
   rcases hb2 with x|x
   ·exact h.dis a a' b ha ha' hb1 x
   ·have:=(h.pr a b ha hb1).1;have:=x.1;omega
  ·rw[upd_ne _ _ e] at hb1
   rw[upd_ne _ _ e'] at hb2
   exact h.dis a a' b ha ha' hb1 hb2
omit [Payload] in
theorem Zn (f:Goroutine→Goroutine) (a:Nat) (x:Goroutine) (b:Nat) (hb:a≠b):((gs.map f).setIfInBounds a x)[b]?=(gs[b]?).map f:=by
 rw[Array.getElem?_setIfInBounds_ne hb,Array.getElem?_map]
omit [Payload] in
theorem Qc (f:Goroutine→Goroutine) (a:Nat) (x:Goroutine) (ha:a<gs.size):((gs.map f).setIfInBounds a x)[a]?=some x:=by simp[ha]
omit [Payload] in
theorem zcz {Sh:Loc→Prop} {u:Trace} (h:∀ (i:Nat) (op:MemOp) (x:Touch),t[i]?=some op→op.g<k0→op.act.touch?=some x→¬ Sh x.loc→Knows t 0 i) (hu:∀ op∈u,op.g=0∨op.act.touch?=none∨k0≤op.g) :
  ∀ (i:Nat) (op:MemOp) (x:Touch),(t++u)[i]?=some op→op.g<k0→op.act.touch?=some x→¬ Sh x.loc→Knows (t++u) 0 i:=by
 intro i op x hi hg hx hs
 rcases Go.Conc.getElem?_append_cases hi with ⟨_,hi'⟩|⟨_,hiu⟩
 ·exact (h i op x hi' hg hx hs).app u
 ·rcases hu op hiu with h0|h0|h0
  ·have:=Go.Conc.knows_own hi
   rwa [h0] at this
  ·rw[h0] at hx;cases hx
  ·omega
omit [Payload] in
theorem JR {u:Trace} (h:∀ i g,t.g? i=some g→g≠0→g<k0→t.counts i→∃ j,t.g? j=some 0∧HappensBefore t i j) (hu:∀ op∈u,op.g=0∨k0≤op.g∨op.act.touch?=none) :
  ∀ i g,(t++u).g? i=some g→g≠0→g<k0→(t++u).counts i→∃ j,(t++u).g? j=some 0∧HappensBefore (t++u) i j:=by
 intro i g hg hne hlt hc
 obtain⟨x,hx,hk⟩:=hc
 obtain⟨op,hop,hox⟩:=Go.Conc.touch_of hx
 rcases Go.Conc.getElem?_append_cases hop with ⟨hi,hop'⟩|⟨_,hopu⟩
 ·obtain⟨j,hj,hb⟩:=h i g (by simpa[Trace.g?,Go.Conc.getElem?_append_old hi] using hg) hne hlt ((Go.Conc.counts_old hi).1 ⟨x,hx,hk⟩)
  have hjl:j<t.size:=by
   unfold Trace.g? at hj
   obtain⟨z,hz,_⟩:=Option.map_eq_some_iff.1 hj
   exact Go.Conc.lt_size_of_getElem? hz
  exact⟨j,by simpa[Trace.g?,Go.Conc.getElem?_append_old hjl] using hj,Go.Conc.hb_app u hb⟩
 ·have hgg:op.g=g:=by simpa[Trace.g?,hop] using hg
  rcases hu op hopu with h0|h0|h0
  ·exact absurd (hgg.symm.trans h0) hne
  ·omega
  ·rw[h0] at hox;cases hox
def EvW (Wg C:Nat) (Sb Pr Sd O:Nat→Prop) (N:Nat) (e:Event):Prop:=
 (∀ x,(MemAct.ofEvent e).touch?=some x→(ShF Wg Sb x.loc∧x.kind≠.plain∧x.kind≠.said)∨(∃ b,locB x.loc=some b∧Pr b)∨(∃ a,x.loc=.cell a∧a.block=C∧O a.off)∨((∃ b,locB x.loc=some b∧Sd b)∧x.write=false)) ∧
 e.loc≠.mark (.release (stA Wg))∧(MemAct.ofEvent e).low N
theorem Com.stepW {O:Nat→Prop} (hcl:∀ i i' o,cl i o→cl i' o→i=i') (hkw:∀ i,cl i (kw i-1)) (hk0 : 1≤k0) (h:Com W n k0 Sb K w1 G gs w t d0 q) (hi:i<G.j) (hg:gs[k0+i]?=some g)
  (he:Else ty Wg C (G.Pr i) O w w') (hO:∀ o,O o→cl i o) {d:WD} {γ : W.Γ} (hs:SitW W i d γ (fun b=>G.Pr i b∨fresh w w' b) (G.Sd i) g' w')
  (hev:∀ e∈es,EvW Wg C Sb (fun b=>G.Pr i b∨fresh w w' b) (G.Sd i) (cl i) w'.heap.size e) (hdeaf:deafBehind (G.D i).deaf es=d.deaf)
  (hrel:d.stage≤6→∃ r,RelX Wg Sb (t++MemOp.ofEvents (k0+i) g.frame.fn g.frame.place es) (k0+i) r) :
  Com W n k0 Sb K w1 (G.stepW i d γ w w') ((gs.map (woken P g g' w')).setIfInBounds (k0+i) g') w' (t++MemOp.ofEvents (k0+i) g.frame.fn g.frame.place es) d0 q:=by
 have hlive:=h.geo
 have hgeo:=h.geo.stepW he.size hi d γ
 have A:=hgeo.apart (k0:=k0) hcl
 have hkg:∀ op∈MemOp.ofEvents (k0+i) g.frame.fn g.frame.place es,op.g=k0+i:=g_of_ofEvents
 have hct:CT (ShF Wg Sb) (OwnF C k0 cl (G.stepW i d γ w w')) (RdF k0 (G.stepW i d γ w w')) t (k0+G.j-1):=by
  refine zen h.ct (fun k l _ _ hx=>?_) (fun k l _ _=>Iff.rfl) (fun k l _ _ hx=>?_)
  ·obtain⟨a,ha,rfl,hx⟩:=hx
   refine⟨a,ha,rfl,hx.imp (fun ⟨b,hb,hp⟩=>⟨b,hb,?_⟩) id⟩
   show upd G.Pr i (fun b=>G.Pr i b∨fresh w w' b) a b
   by_cases e:a=i
   ·subst e;rw[upd_same];exact .inl hp
   ·rw[upd_ne _ _ e];exact hp
  ·obtain⟨a,ha,rfl,hx⟩:=hx
   rcases hx with ⟨b,hb,hp⟩|hx
   ·have hp':upd G.Pr i (fun b=>G.Pr i b∨fresh w w' b) a b:=hp
    by_cases e:a=i
    ·subst e
     rw[upd_same] at hp'
     rcases hp' with x|x
     ·exact .inl ⟨a,ha,rfl,.inl ⟨b,hb,x⟩⟩
     ·exact .inr (untouched h.low hb x.1)
    ·rw[upd_ne _ _ e] at hp'
     exact .inl ⟨a,ha,rfl,.inl ⟨b,hb,hp'⟩⟩
   ·exact .inl ⟨a,ha,rfl,.inr hx⟩
 have hrly:∀ a,a<G.j→a≠i→Rly ty Wg C (fun b=>G.Pr a b∨G.Sd a b) (cl a) w w':=fun a ha e=>he.rly (fun b hb=>by
  rcases hb with hb|hb
  ·have:=h.geo.pr a b ha hb
   exact⟨this.1,fun hx=>e (h.geo.dis a i b ha hi hb hx),this.2.1,this.2.2.1⟩
  ·have hv:=(h.geo.sd a b ha hb).1
   have:=h.geo.v b hv
   exact⟨this.1,fun hx=>(h.geo.pr i b hi hx).2.2.2.2 hv,this.2.1,this.2.2.1⟩) (fun o ho hoi=>e (hcl _ _ _ ho (hO o hoi)))
 have hsize:=h.size
 refine⟨by show _=k0+G.j;simpa using h.size,fun a x ha hak hx=>?_,fun a ha=>?_,hgeo,CT.appW (j:=k0+G.j-1) A hct (by omega) (by omega) fun op hop=>⟨hkg op hop,fun x hx=>?_⟩,h.norel.app fun op hop hm=>?_,
  by rw[Go.Conc.Deaf_other t (by omega) _ hkg];exact h.deaf0,fun a ha=>?_,fun a ha hst=>?_,zcz h.kn fun op hop=>.inr (.inr (by rw[hkg op hop];omega)),JR h.over fun op hop=>.inr (.inl (by rw[hkg op hop];omega)),
  Go.Conc.seen_app (fun op hop=>MemAct.low_mono he.size (h.low op hop)) fun op hop=>?_,?_,fun b hb=>?_,h.calm.trans he.calm,Nat.le_trans h.grow he.size⟩
 ·rw[Zn _ _ _ _ (by omega)] at hx
  obtain⟨y,hy,rfl⟩:=Option.map_eq_some_iff.1 hx
  have hq:=h.lv a y ha hak hy
  rw[Go.Conc.woken_quitsD hq,Go.Conc.Deaf_other t (by omega) _ hkg]
  exact hq
 ·have ha:a<G.j:=ha
  by_cases e:a=i
  ·subst e
   refine⟨g',Qc _ _ _ (by rw[h.size];have:a<G.j:=ha;omega),?_⟩
   show SitW W a (upd G.D a d a) (upd G.γ a γ a) (upd G.Pr a _ a) (G.Sd a) g' w'
   rw[upd_same,upd_same,upd_same]
   exact hs
  ·obtain⟨x,hx,hsx⟩:=h.wk a ha
   refine⟨x,by rw[Zn _ _ _ _ (by omega),hx,Option.map_some,hsx.woken],?_⟩
   show SitW W a (upd G.D i d a) (upd G.γ i γ a) (upd G.Pr i _ a) (G.Sd a) x w'
   rw[upd_ne _ _ e,upd_ne _ _ e,upd_ne _ _ e]
   exact hsx.rely hkw h.row (hrly a ha e)
 ·obtain⟨e,hem,rfl⟩:=Go.Conc.mem_ofEvents hop
  rcases (hev e hem).1 x hx with x1|⟨b,hb,hp⟩|hx1|⟨⟨b,hb,hp⟩,hw⟩
  ·exact .inl x1
  ·exact .inr (.inl ⟨i,hi,rfl,.inl ⟨b,hb,by show upd G.Pr i _ i b;rw[upd_same];exact hp⟩⟩)
  ·exact .inr (.inl ⟨i,hi,rfl,.inr hx1⟩)
  ·exact .inr (.inr ⟨⟨i,hi,rfl,b,hb,hp⟩,hw⟩)
 ·obtain⟨e,hem,rfl⟩:=Go.Conc.mem_ofEvents hop
  exact (hev e hem).2.1 (Go.ConcR.loc_of_ofEvent hm)
 ·show Deaf _ (k0+a)=(upd G.D i d a).deaf
  by_cases e:a=i
  ·subst e;rw[Go.Conc.Deaf_own,h.deafW a ha,upd_same];exact hdeaf
  ·rw[Go.Conc.Deaf_other t (by omega) _ hkg,h.deafW a ha,upd_ne _ _ e]
 ·have hst':(upd G.D i d a).stage≤6:=hst
  by_cases e:a=i
  ·subst e;rw[upd_same] at hst';exact hrel hst'
  ·rw[upd_ne _ _ e] at hst'
   obtain⟨r,hr⟩:=h.rel a ha hst'
   exact⟨r,hr.appOther hkg (by omega)⟩
 ·obtain⟨e,hem,rfl⟩:=Go.Conc.mem_ofEvents hop
  exact (hev e hem).2.2
 ·obtain⟨cs,ct,m,hc⟩:=h.row
  obtain⟨cs',h1,_,_⟩:=he.pay _ _ _ hc
  exact⟨cs',ct,m,h1⟩
 ·obtain⟨h1,h2,h3⟩:=h.keep b hb
  have hv:=h.geo.v b h1
  exact⟨h1,h2,(he.blk b hv.1 (fun hx=>(h.geo.pr i b hi hx).2.2.2.2 h1) hv.2.1 hv.2.2.1).trans h3⟩
end
end
end Go.Par
