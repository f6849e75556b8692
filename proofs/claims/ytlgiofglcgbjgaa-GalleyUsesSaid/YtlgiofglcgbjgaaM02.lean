/- The library's small programs, run beside themselves. The instructions on memory and values, run beside themselves. Comparison, maps, slices, iterators, run beside themselves. -/
import Derived.Test.YtlgiofglcgbjgaaM01
namespace Go.Par
open Go
section
def Zt (_:Program) (_:Ren):Prop:=True
def Plain (v:Value):Prop:=∀ B,VRel B v v
structure TypesOk (T:Tables):Prop where
 zeros:∀ t i v,T.info? t=some i→i.zero=some v→Plain v
 odd:∀ i,T.info? 0=some i→i.methods.find? (·.name == "~")=none
abbrev swap (P:Program) (fs:Array Func):Program:={ P with funcs:=fs }
abbrev Same (α : Type):Ren→α→α→Prop:=fun _ a a'=>a'=a
abbrev VR:Ren→Value→Value→Prop:=fun B v v'=>VRel B v v'
abbrev VsR:Ren→Array Value→Array Value→Prop:=fun B v v'=>VsRel B v v'
abbrev AdR:Ren→Addr→Addr→Prop:=fun B a a'=>AR B a a'
section
variable {P:Program} {fs:Array Func} {B:Ren}
theorem zd {α α':Type} {R:Ren→α→α'→Prop} {a : α} {a' : α'} (h:R B a a'):SRel P (swap P fs) R B (pure a) (pure a'):=.pure h
theorem ze {α α':Type} {R:Ren→α→α'→Prop} {s:String} {x:Sem α'} : SRel P (swap P fs) R B (stuck s:Sem α) x:=.bad trivial
theorem zp {α α':Type} {R:Ren→α→α'→Prop} {u:Unsupported} {x:Sem α'} (hu:Halt.bad (.unsupported u):=by exact True.intro):SRel P (swap P fs) R B (unsupported u:Sem α) x:=.bad hu
theorem zF {α α' β : Type} {R:Ren→α→α'→Prop} {s:String} {k : β→Sem α} {x:Sem α'} : SRel P (swap P fs) R B ((stuck s:Sem β) >>= k) x:=.bad trivial
theorem qb {α α' β : Type} {R:Ren→α→α'→Prop} {u:Unsupported} {k : β→Sem α} {x:Sem α'} (hu:Halt.bad (.unsupported u):=by exact True.intro):SRel P (swap P fs) R B ((unsupported u:Sem β) >>= k) x:=.bad hu
theorem yi {α α':Type} {R:Ren→α→α'→Prop} {v v':Value} (h:VRel B v v'):SRel P (swap P fs) R B (goPanic v:Sem α) (goPanic v':Sem α'):=.panic h
theorem zN {α α':Type} {R:Ren→α→α'→Prop} {k:Program→Sem α} {k':Program→Sem α'} (h:SRel P (swap P fs) R B (k P) (k' (swap P fs))):SRel P (swap P fs) R B (program >>= k) (program >>= k'):=.program h
theorem zb {α β β':Type} {S:Ren→β→β'→Prop} {s s':Sem α} {f : α→Sem β} {f' : α→Sem β'}
  (h:SRel P (swap P fs) (Same α) B s s') (hf:∀ C a,B.le C→SRel P (swap P fs) S C (f a) (f' a)):SRel P (swap P fs) S B (s >>= f) (s' >>= f'):=
 h.bind fun C a a' hl e=>by cases e;exact hf C a hl
theorem qN (q:Question):SRel P (swap P fs) (Same Nat) B (choose q) (choose q):=.choose q fun _=>.pure rfl
theorem mark_r {m m':Mark} (h:MR B m m'):SRel P (swap P fs) (Same Unit) B (mark m) (mark m'):=.mark h (.pure rfl)
theorem zeA {a a':Addr} (m:Mode) (h:AR B a a'):SRel P (swap P fs) VR B (load a m) (load a' m):=.load m h fun _ _ hv=>.pure hv
theorem yW {o o':Obj} (h:ORel B o o'):SRel P (swap P fs) (fun C r r'=>C r r') B (newObj o) (newObj o'):=.new h fun _ _ _ _ hr=>.pure hr
theorem qE {r r':Nat} (h:B r r'):SRel P (swap P fs) (fun C o o'=>ORel C o o') B (getObj r) (getObj r'):=.getObj h fun _ _ ho=>.pure ho
theorem qW {r r':Nat} {o o':Obj} (h:B r r') (ho:ORel B o o'):SRel P (swap P fs) (Same Unit) B (setObj r o) (setObj r' o'):=.setObj h ho (.pure rfl)
theorem ZS {r r':Nat} (h:B r r'):SRel P (swap P fs) (Same _) B (shape r) (shape r'):=.shape h fun _=>.pure rfl
theorem Ye {a a':Addr} (h:AR B a a'):SRel P (swap P fs) (fun _ b b'=>b'=true→b=true) B (frozen a) (frozen a'):=.frozen h fun _ _ hb=>.pure hb
theorem zcq (n:Nat):SRel P (swap P fs) (Same Unit) B (askRoom n) (askRoom n):=by
 unfold askRoom
 split
 ·exact mark_r .noRoom
 ·exact zd rfl
theorem typeInfo_r (t:TypeId):SRel P (swap P fs) (fun _ a a'=>a'=a∧P.info? t=some a) B (typeInfo t) (typeInfo t):=by
 refine zN ?_
 show SRel _ _ _ _ (match P.info? t with|some i=>pure i|none=>stuck "no such type") (match P.info? t with|some i=>pure i|none=>stuck "no such type")
 cases h:P.info? t with
 | some i=>exact zd ⟨rfl,rfl⟩
 | none=>exact ze
theorem underlying_r (t:TypeId):SRel P (swap P fs) (fun _ a a'=>a'=a∧P.underlying t=some a) B (underlying t) (underlying t):=by
 refine zN ?_
 show SRel _ _ _ _ (match P.underlying t with|some i=>pure i|none=>stuck "no such type") (match P.underlying t with|some i=>pure i|none=>stuck "no such type")
 cases h:P.underlying t with
 | some i=>exact zd ⟨rfl,rfl⟩
 | none=>exact ze
theorem zm {β β':Type} {S:Ren→β→β'→Prop} {t:TypeId} {f:TypeDesc→Sem β} {f':TypeDesc→Sem β'}
  (hf:∀ d,P.underlying t=some d→SRel P (swap P fs) S B (f d) (f' d)):SRel P (swap P fs) S B (underlying t >>= f) (underlying t >>= f'):=by
 refine zN ?_
 show SRel _ _ _ _ ((match P.underlying t with|some i=>pure i|none=>stuck "no such type") >>= f) ((match P.underlying t with|some i=>pure i|none=>stuck "no such type") >>= f')
 cases h:P.underlying t with
 | some i=>exact hf i h
 | none=>exact .bad trivial
theorem qe {β β':Type} {S:Ren→β→β'→Prop} {t:TypeId} {f:TypeInfo→Sem β} {f':TypeInfo→Sem β'}
  (hf:∀ d,P.info? t=some d→SRel P (swap P fs) S B (f d) (f' d)):SRel P (swap P fs) S B (typeInfo t >>= f) (typeInfo t >>= f'):=by
 refine zN ?_
 show SRel _ _ _ _ ((match P.info? t with|some i=>pure i|none=>stuck "no such type") >>= f) ((match P.info? t with|some i=>pure i|none=>stuck "no such type") >>= f')
 cases h:P.info? t with
 | some i=>exact hf i h
 | none=>exact .bad trivial
theorem qG (T:TypesOk P.toTables) (t:TypeId):SRel P (swap P fs) VR B (zeroValue t) (zeroValue t):=by
 unfold zeroValue
 refine qe fun i hi=>?_
 cases h:i.zero with
 | some v=>exact zd (T.zeros t i v hi h B)
 | none=>exact zp
theorem zS {β β':Type} {S:Ren→β→β'→Prop} {t:TypeId} {f:Nat→Sem β} {f':Nat→Sem β'}
  (hf:∀ n,SRel P (swap P fs) S B (f n) (f' n)):SRel P (swap P fs) S B (Go.sizeOf t >>= f) (Go.sizeOf t >>= f'):=by
 unfold Go.sizeOf
 refine zN ?_
 show SRel _ _ _ _ (((match P.info? t with|some i=>pure i|none=>stuck "no such type") >>= fun i=>pure i.size) >>= f) (((match P.info? t with|some i=>pure i|none=>stuck "no such type") >>= fun i=>pure i.size) >>= f')
 cases h:P.info? t with
 | some i=>exact hf _
 | none=>exact .bad trivial
theorem zaV {β β':Type} {S:Ren→β→β'→Prop} {t:TypeId} {f:Bool→Sem β} {f':Bool→Sem β'}
  (hf:∀ n,SRel P (swap P fs) S B (f n) (f' n)):SRel P (swap P fs) S B (isAgg t >>= f) (isAgg t >>= f'):=by
 unfold isAgg
 refine zN ?_
 show SRel _ _ _ _ (((match P.underlying t with|some i=>pure i|none=>stuck "no such type") >>= fun d=>match d with|.struct _|.array _ _=>pure true|_=>pure false) >>= f)
  (((match P.underlying t with|some i=>pure i|none=>stuck "no such type") >>= fun d=>match d with|.struct _|.array _ _=>pure true|_=>pure false) >>= f')
 cases h:P.underlying t with
 | some d=>cases d<;>exact hf _
 | none=>exact .bad trivial
theorem Qk {a a':Addr} : ∀ (n i:Nat) {B:Ren} {acc acc':Array Value},AR B a a'→VsRel B acc acc'→SRel P (swap P fs) VsR B (loadCellsFrom a i n acc) (loadCellsFrom a' i n acc')
 | 0,_,_,_,_,_,hv=>zd hv
 | n+1,i,_,_,_,ha,hv=>(zeA .plain (ha.add i)).bind fun _ _ _ hl hx=>Qk n (i+1) (ha.mono hl) ((VsRel.mono hl hv).push hx)
theorem Zm {a a':Addr} (n:Nat) (ha:AR B a a'):SRel P (swap P fs) VsR B (loadCells a n) (loadCells a' n):=Qk n 0 ha Rows.empty
theorem yK {a a':Addr} {vs vs':List Value} (i:Nat) (ha:AR B a a') (hv:LR (VRel B) vs vs'):SRel P (swap P fs) (Same Unit) B (storeCells a vs i) (storeCells a' vs' i):=by
 induction hv generalizing i with
 | nil=>unfold storeCells;exact zd rfl
 | cons h _ ih =>
  unfold storeCells
  exact .store .plain (ha.add i) h (ih (i+1))
theorem zca (t:TypeId) {a a':Addr} (ha:AR B a a'):SRel P (swap P fs) VR B (loadVar t a) (loadVar t a'):=by
 unfold loadVar
 refine zaV fun b=>?_
 cases b
 ·exact zeA .plain ha
 ·refine zS fun n=>(Zm n ha).bind fun C x y hl h=>zd ?_
  exact .agg h.1 h.2
theorem storeVar_r (t:TypeId) {a a':Addr} {v v':Value} (ha:AR B a a') (hv:VRel B v v'):SRel P (swap P fs) (Same Unit) B (storeVar t a v) (storeVar t a' v'):=by
 unfold storeVar
 refine zS fun n=>?_
 rw[hv.cells.size]
 split
 ·exact zF
 ·exact yK 0 ha hv.cells.toList
theorem JU (t:TypeId) {c c':Array Value} (hv:VsRel B c c'):SRel P (swap P fs) AdR B (newRow t c) (newRow t c'):=by
 unfold newRow
 exact (yW (.cells t MaskR.zero hv)).bind fun C r r' hl hr=>zd ⟨hr,rfl,rfl⟩
theorem zaK (t:TypeId) {v v':Value} (hv:VRel B v v'):SRel P (swap P fs) AdR B (newVar t v) (newVar t v'):=JU t hv.cells
theorem elemOf_r (t:TypeId):SRel P (swap P fs) (Same _) B (elemOf t) (elemOf t):=by
 unfold elemOf
 refine zm fun d _=>?_
 cases d<;>first|exact zd rfl|exact ze
theorem Qu (t:TypeId) {c c':Array Value} (off:Nat) (hv:VsRel B c c'):SRel P (swap P fs) VR B (part t c off) (part t c' off):=by
 unfold part
 refine zaV fun b=>?_
 cases b
 ·have:=hv.getO off
  simp only[Bool.false_eq_true,if_false]
  generalize c[off]?=x at this
  generalize c'[off]?=y at this
  cases this with
  | none=>exact ze
  | some h=>exact zd h
 ·refine zS fun n=>zd ?_
  have:=hv.extract off (off+n)
  exact .agg this.1 this.2
theorem zeB {l l':List Value} (h:LR (VRel B) l l'):VRel B (.agg l.toArray) (.agg l'.toArray):=.agg h.toArray.1 h.toArray.2
def zdA:RuntimeError→Prop
 | .typeAssertion ..|.unhashable _=>False
 | _=>True
theorem zG {α α':Type} {R:Ren→α→α'→Prop} (_:Zt P B) (e:RuntimeError) (he:zdA e:=by exact True.intro):SRel P (swap P fs) R B (runtimePanic e:Sem α) (runtimePanic e:Sem α'):=by
 unfold runtimePanic
 refine zN ?_
 cases e with
 | bounds x y s c=>exact yi (.iface _ (zeB (.cons (.int _ _) (.cons (.int _ _) (.cons (.bool _) (.cons (.int _ _) .nil))))))
 | error m=>exact yi (.iface _ (.string _))
 | plain m=>exact yi (.iface _ (.string _))
 | nilDeref=>exact yi (.iface _ (.string _))
 | typeAssertion i c a m=>exact he.elim
 | panicNil =>
  refine zb (elemOf_r _) fun C t hl=>?_
  refine (zaK t (v:=.agg #[]) (v':=.agg #[]) (zeB .nil)).bind fun D r r' _ hr=>?_
  exact yi (.iface _ (.pointer (.some hr)))
 | unhashable t=>exact he.elim
theorem qc {α α' β : Type} {R:Ren→α→α'→Prop} (hB:Zt P B) (e:RuntimeError) {k : β→Sem α} {k' : β→Sem α'} (he:zdA e:=by exact True.intro):SRel P (swap P fs) R B (runtimePanic e >>= k) (runtimePanic e >>= k'):=
 (zG (R:=fun _ _ _=>False) hB e he).bind fun _ _ _ _ h=>h.elim
theorem qU {α α':Type} {R:Ren→α→α'→Prop} (hB:Zt P B) (k:IntKind) (x y:Int) (c:BoundsCode):SRel P (swap P fs) R B (boundsPanic k x y c:Sem α) (boundsPanic k x y c:Sem α'):=by
 unfold boundsPanic
 split
 ·refine zb (s:=Functor.map (fun x=>x==1) (choose (Question.extern "runtime.boundsError.signed" 2))) (s':=Functor.map (fun x=>x==1) (choose (Question.extern "runtime.boundsError.signed" 2))) ?_ fun C s hl=>zG trivial _
  exact zb (qN _) fun _ _ _=>zd rfl
 ·exact zG hB (.bounds (IntKind.i64.wrap x) y (k != IntKind.u64) c)
theorem ZK {v v':Value} (h:VRel B v v'):SRel P (swap P fs) (Same _) B (asIntOf v) (asIntOf v'):=by
 cases h<;>unfold asIntOf<;>first
  | exact zd rfl
  | exact ze
  | (rename_i h;cases h<;>first|exact ze|exact zp)
theorem Qi {v v':Value} (h:VRel B v v'):SRel P (swap P fs) (Same _) B (asInt v) (asInt v'):=by
 unfold asInt
 exact zb (ZK h) fun _ _ _=>zd rfl
theorem Yk {v v':Value} (h:VRel B v v'):SRel P (swap P fs) (Same _) B (asBool v) (asBool v'):=by
 cases h<;>unfold asBool<;>first|exact zd rfl|exact ze
theorem asAgg_r {v v':Value} (h:VRel B v v'):SRel P (swap P fs) VsR B (asAgg v) (asAgg v'):=by
 cases h<;>unfold asAgg<;>first|exact ze|exact zd ⟨by assumption,by assumption⟩
theorem zdw (hB:Zt P B) {v v':Value} (h:VRel B v v'):SRel P (swap P fs) AdR B (asAddr v) (asAddr v'):=by
 cases h<;>unfold asAddr<;>first
  | exact ze
  | (rename_i h;cases h<;>first|exact zd (by assumption)|exact zG hB _)
end
end
section
theorem VRel.default (B:Ren):VRel B default default:=.bool _
theorem Rows.getBang {B:Ren} {a b:Array Value} (h:VsRel B a b) (i:Nat):VRel B a[i]! b[i]!:=by
 have:=h.getO i
 rw[getElem!_def,getElem!_def]
 generalize a[i]?=x at this
 generalize b[i]?=y at this
 cases this with
 | none=>exact VRel.default B
 | some h=>exact h
theorem zav {B:Ren} {f g:Nat→Value} (n:Nat) (h:∀ i,VRel B (f i) (g i)):VsRel B ((Array.range n).map f) ((Array.range n).map g):=
 Rows.of (by simp) fun i h1 h2=>by simpa using h i
abbrev zby (B:Ren):List (Nat×Value)→List (Nat×Value)→Prop:=LR (fun x y=>y.1=x.1∧VRel B x.2 y.2)
theorem JE {B:Ren} : ∀ (l m:List (Value×Nat)) (cs cs':Array Value) (off:Nat),LR (fun x y=>y.2=x.2∧VRel B x.1 y.1) l m→VsRel B cs cs' →
  VsRel B (l.foldl (fun cs (c,j)=>cs.setIfInBounds (off+j) c) cs) (m.foldl (fun cs (c,j)=>cs.setIfInBounds (off+j) c) cs')
 | _,_,_,_,_,.nil,h=>h
 | (x,i)::l,(y,j)::m,cs,cs',off,.cons ⟨e,hx⟩ hl,h=>by
  simp only at e
  subst e
  exact JE l m _ _ off hl (h.set _ hx)
theorem zipIdx_r {B:Ren} {l m:List Value} (h:LR (VRel B) l m):∀ k,LR (fun (x y:Value×Nat)=>y.2=x.2∧VRel B x.1 y.1) (l.zipIdx k) (m.zipIdx k):=by
 induction h with
 | nil=>intro k;exact .nil
 | cons h _ ih=>intro k;exact .cons ⟨rfl,h⟩ (ih (k+1))
theorem Yf {β : Type} (f : β→Value×Nat→β) (b : β) (a:Array Value):a.zipIdx.foldl f b=a.toList.zipIdx.foldl f b:=by
 rw[← Array.foldl_toList];simp
theorem zcC {B:Ren} (place:Nat→Option (Nat×Nat)):∀ (ps ps':List (Nat×Value)) (cs cs':Array Value),zby B ps ps'→VsRel B cs cs'→OR (VsRel B) (Instr.fill place cs ps) (Instr.fill place cs' ps')
 | _,_,_,_,.nil,h=>.some h
 | (i,v)::ps,(j,v')::ps',cs,cs',.cons ⟨e,hv⟩ hl,h=>by
  simp only at e
  subst e
  simp only[Instr.fill]
  cases place j with
  | none=>exact .none
  | some x =>
   obtain⟨off,size⟩:=x
   simp only
   rw[hv.cells.size,h.size]
   split
   ·exact .none
   ·refine zcC place ps ps' _ _ hl ?_
    rw[Yf,Yf]
    exact JE _ _ _ _ off (zipIdx_r hv.cells.toList 0) h
section
variable {P:Program} {fs:Array Func} {B:Ren}
theorem ite_r {α α':Type} {R:Ren→α→α'→Prop} {c:Prop} [Decidable c] {a b:Sem α} {a' b':Sem α'} (h:c→SRel P (swap P fs) R B a a') (k:¬c→SRel P (swap P fs) R B b b') :
  SRel P (swap P fs) R B (if c then a else b) (if c then a' else b'):=by
 split
 ·exact h (by assumption)
 ·exact k (by assumption)
theorem zaR {α β β':Type} {R:Ren→β→β'→Prop} (mono:∀ C D b b',Ren.le C D→R C b b'→R D b b') {f : α→Sem β} {f' : α→Sem β'} (hf:∀ C x,B.le C→SRel P (swap P fs) R C (f x) (f' x)) :
  ∀ (l:List α) (C:Ren),B.le C→SRel P (swap P fs) (fun D=>LR (R D)) C (l.mapM f) (l.mapM f')
 | [],C,_=>by simp only[List.mapM_nil];exact zd .nil
 | x::l,C,hC=>by
  simp only[List.mapM_cons]
  exact (hf C x hC).bind fun D b b' hl hb=>(zaR (R:=R) mono hf l D (hC.trans hl)).bind fun E bs bs' hl2 hbs=>zd (.cons (mono _ _ _ _ hl2 hb) hbs)
theorem lr_eq {α : Type} {l m:List α} (h:LR (fun x y=>y=x) l m):m=l:=by
 induction h with
 | nil=>rfl
 | cons e _ ih=>rw[e,ih]
theorem arrayMapM_same {α β : Type} {f : α→Sem β} (hf:∀ C x,B.le C→SRel P (swap P fs) (Same β) C (f x) (f x)) (a:Array α) :
  SRel P (swap P fs) (Same (Array β)) B (a.mapM f) (a.mapM f):=by
 rw[Array.mapM_eq_mapM_toList]
 exact (zaR (R:=Same β) (fun _ _ _ _ _ h=>h) hf a.toList B (Ren.le.refl _)).bind fun _ _ _ _ h=>zd (by rw[lr_eq h])
theorem yS {v v':Value} (h:VRel B v v'):SRel P (swap P fs) AdR B (Instr.sureAddr v) (Instr.sureAddr v'):=by
 cases h<;>unfold Instr.sureAddr<;>first
  | exact ze
  | (rename_i h;cases h<;>first|exact zd (by assumption)|exact ze)
theorem loadAt_r (t:TypeId) {v v':Value} (h:VRel B v v'):SRel P (swap P fs) VR B (Instr.loadAt t v) (Instr.loadAt t v'):=by
 unfold Instr.loadAt
 exact (yS h).bind fun _ _ _ _ ha=>zca t ha
theorem storeAt_r (t:TypeId) {v v' u u':Value} (h:VRel B v v') (hu:VRel B u u'):SRel P (swap P fs) (Same Unit) B (Instr.storeAt t v u) (Instr.storeAt t v' u'):=by
 unfold Instr.storeAt
 exact (yS h).bind fun _ _ _ hl ha=>storeVar_r t ha (hu.mono hl)
theorem alloc_r (T:TypesOk P.toTables) (t:TypeId):SRel P (swap P fs) VR B (Instr.alloc t true (.tuple #[])) (Instr.alloc t true (.tuple #[])):=by
 unfold Instr.alloc
 exact (qG T t).bind fun _ _ _ _ hz=>(zaK t hz).bind fun _ _ _ _ ha=>zd (.pointer (.some ha))
theorem box_r (t:TypeId) {v v':Value} (h:VRel B v v'):SRel P (swap P fs) VR B (Instr.box t v) (Instr.box t v'):=by
 unfold Instr.box
 exact (zaK t h).bind fun _ _ _ _ ha=>zd (.pointer (.some ha))
theorem zcM {r r':Nat} (h:B r r'):SRel P (swap P fs) (Same _) B (viewAt r) (viewAt r'):=by
 unfold viewAt
 refine zb (ZS h) fun C s hl=>?_
 cases s with
 | some x=>exact zd rfl
 | none=>exact (qE (hl _ _ h)).bind fun D o o' _ ho=>by cases ho<;>exact zd rfl
theorem zaG {a a':Addr} (h:AR B a a'):SRel P (swap P fs) (Same _) B (noView a) (noView a'):=by
 unfold noView
 refine zb (zcM h.block) fun C s hl=>?_
 cases s with
 | some x=>exact zp
 | none=>exact zd rfl
theorem Zg {a a':Addr} (h:AR B a a'):SRel P (swap P fs) (Same Nat) B (byteOf a) (byteOf a'):=by
 unfold byteOf
 rw[h.spot]
 cases a.spot with
 | some s=>exact zd rfl
 | none =>
  refine zN ?_
  refine zb (zaG h) fun C _ hl=>?_
  refine zb (ZS (hl _ _ h.block)) fun D s hl2=>?_
  rw[h.off]
  cases s with
  | none=>exact ze
  | some x =>
   obtain⟨e,n⟩:=x
   show SRel _ _ _ _ (if P.cellsOf e=0 then pure 0 else _) (if P.cellsOf e=0 then pure 0 else _)
   split
   ·exact zd rfl
   ·have e1:byteOfCell (swap P fs) (swap P fs).depth e (a.off % (swap P fs).cellsOf e)=byteOfCell P P.depth e (a.off % P.cellsOf e):=by
     have:∀ (d:Nat) (t:TypeId) (o:Nat),byteOfCell (swap P fs) d t o=byteOfCell P d t o:=by
      intro d
      induction d with
      | zero=>intros;rfl
      | succ d ih =>
       intro t o
       unfold byteOfCell
       simp only[ih]
       rfl
     exact this _ _ _
    rw[e1]
    cases byteOfCell P P.depth e (a.off % P.cellsOf e) with
    | none=>exact ze
    | some b=>exact zd rfl
theorem fieldPlace_r {a a':Addr} (h:AR B a a') (f:Field):SRel P (swap P fs) AdR B (fieldPlace a f) (fieldPlace a' f):=by
 unfold fieldPlace
 refine zS fun n=>?_
 split
 ·unfold partAt
  refine zb (Zg h) fun C b hl=>?_
  have hp:AR C { block:=a.block,off:=a.off+f.offset } { block:=a'.block,off:=a'.off+f.offset }:=⟨hl _ _ h.block,by simp[h.off],rfl⟩
  refine zb (Zg hp) fun D b2 hl2=>zd ?_
  show AR D _ _
  split
  ·exact hp.mono hl2
  ·exact⟨hl2 _ _ hp.block,hp.off,rfl⟩
 ·exact zd (h.add _)
theorem fieldAt_r (s:TypeId) {v v':Value} (h:VRel B v v') (k:Nat):SRel P (swap P fs) VR B (Instr.fieldAt s v k) (Instr.fieldAt s v' k):=by
 unfold Instr.fieldAt
 refine zm fun d _=>?_
 cases d with
 | struct fields =>
  cases hf:fields[k]? with
  | none=>simp only[hf];exact ze
  | some f=>simp only[hf];exact (yS h).bind fun _ _ _ _ ha=>(fieldPlace_r ha f).bind fun _ _ _ _ hb=>zd (.pointer (.some hb))
 | _=>exact ze
theorem indexAt_r (_hB:Zt P B) (t:TypeId) {v v' i i':Value} (h:VRel B v v') (hi:VRel B i i'):SRel P (swap P fs) VR B (Instr.indexAt t v i) (Instr.indexAt t v' i'):=by
 unfold Instr.indexAt
 refine zb (ZK hi) fun C ki hl=>?_
 obtain⟨k,i⟩:=ki
 have h:=h.mono hl
 have hB:Zt P C:=trivial
 have fin:∀ (D:Ren) (base base':Option Addr) (len:Nat) (elem:TypeId),Zt P D→OR (AR D) base base' →
   SRel P (swap P fs) VR D
    (do
     let tiny:=len≤1&&(match ← underlying t with|.array ..=>true|_=>false)
     match base with
     | some a =>
      if 0≤i∧i<len then pure (.pointer (some (a.add (i.toNat*(← Go.sizeOf elem)))))
      else if tiny then unsupported (.noEntry "op/indexAddr.an index out of range at an array of length 0 or 1 (ledger 616)")
      else boundsPanic k i len .index
     | none=>boundsPanic k i 0 .index)
    (do
     let tiny:=len≤1&&(match ← underlying t with|.array ..=>true|_=>false)
     match base' with
     | some a =>
      if 0≤i∧i<len then pure (.pointer (some (a.add (i.toNat*(← Go.sizeOf elem)))))
      else if tiny then unsupported (.noEntry "op/indexAddr.an index out of range at an array of length 0 or 1 (ledger 616)")
      else boundsPanic k i len .index
     | none=>boundsPanic k i 0 .index):=by
  intro D base base' len elem hD ho
  refine zm fun d _=>?_
  cases ho with
  | none=>exact qU hD _ _ _ _
  | some ha =>
   exact ite_r (fun _=>zS fun n=>zd (.pointer (.some (ha.add _)))) fun _=>ite_r (fun _=>zp) fun _=>qU hD _ _ _ _
 refine zm fun d _=>?_
 cases d with
 | array len elem =>
  refine (yS h).bind fun D a a' hl2 ha=>?_
  exact fin D (some a) (some a') len elem trivial (.some ha)
 | slice elem =>
  cases h with
  | slice l c ho=>exact fin C _ _ l elem hB ho
  | empty=>exact zm fun d _=>ite_r (fun q=>by omega) fun _=>ite_r (fun _=>zp) fun _=>qU hB _ _ _ _
  | _=>exact zF
 | _=>exact zF
theorem build_r (T:TypesOk P.toTables) (t:TypeId) {ps ps':Array (Nat×Value)} (h:zby B ps.toList ps'.toList):SRel P (swap P fs) VR B (Instr.build t ps) (Instr.build t ps'):=by
 unfold Instr.build
 refine (qG T t).bind fun C z z' hl hz=>?_
 have h:zby C ps.toList ps'.toList:=h.mono fun _ _ x=>⟨x.1,x.2.mono hl⟩
 refine zm fun d _=>?_
 cases d with
 | struct fields =>
  refine zb (arrayMapM_same (fun C x _=>zS fun n=>zd rfl) fields) fun D places hl2=>?_
  ·have:=zcC (B:=D) (places[·]?) _ _ _ _ (h.mono fun _ _ x=>⟨x.1,x.2.mono hl2⟩) (VsRel.mono hl2 hz.cells)
   generalize Instr.fill (places[·]?) z.cells ps.toList=x at this
   generalize Instr.fill (places[·]?) z'.cells ps'.toList=y at this
   cases this with
   | none=>exact ze
   | some h=>exact zd (.agg h.1 h.2)
 | array len elem =>
  refine zS fun n=>?_
  have:=zcC (B:=C) (fun i=>some (i*n,n)) _ _ _ _ h hz.cells
  generalize Instr.fill (fun i=>some (i*n,n)) z.cells ps.toList=x at this
  generalize Instr.fill (fun i=>some (i*n,n)) z'.cells ps'.toList=y at this
  cases this with
  | none=>exact ze
  | some h=>exact zd (.agg h.1 h.2)
 | _=>exact ze
end
end
section
theorem AR.eq_iff {B:Ren} {a a' b b':Addr} (ha:AR B a a') (hb:AR B b b'):(a'=b')↔(a=b):=by
 obtain⟨x,y,z⟩:=a
 obtain⟨x',y',z'⟩:=a'
 obtain⟨u,v,t⟩:=b
 obtain⟨u',v',t'⟩:=b'
 obtain⟨h1,h2,h3⟩:=ha
 obtain⟨k1,k2,k3⟩:=hb
 simp only at *
 subst h2 h3 k2 k3
 simp only[Addr.mk.injEq]
 refine and_congr_left fun _=>⟨fun e=>?_,fun e=>?_⟩
 ·subst e;exact B.right h1 k1
 ·subst e;exact B.left h1 k1
theorem AR.beq {B:Ren} {a a' b b':Addr} (ha:AR B a a') (hb:AR B b b'):(a'==b')=(a==b):=by
 have:=ha.eq_iff hb
 by_cases e:a=b
 ·rw[beq_iff_eq.2 e,beq_iff_eq.2 (this.2 e)]
 ·rw[beq_eq_false_iff_ne.2 e,beq_eq_false_iff_ne.2 fun x=>e (this.1 x)]
theorem AR.beqBlock {B:Ren} {a a' b b':Addr} (ha:AR B a a') (hb:AR B b b'):(a'.block==b'.block)=(a.block==b.block):=by
 by_cases e:a.block=b.block
 ·have h:=hb.block
  rw[← e] at h
  rw[beq_iff_eq.2 e,beq_iff_eq.2 (B.left ha.block h)]
 ·rw[beq_eq_false_iff_ne.2 e,beq_eq_false_iff_ne.2 fun x=>e (B.right ha.block (by rw[x];exact hb.block))]
theorem OR.beqNat {B:Ren} {x y x' y':Option Nat} (h:OR B.rel x x') (k:OR B.rel y y'):(x'==y')=(x==y):=by
 cases h with
 | none=>cases k<;>rfl
 | some h=>cases k with
  | none=>rfl
  | @some b b' k =>
   rename_i a a'
   show (a'==b')=(a==b)
   by_cases e:a=b
   ·subst e;rw[B.left h k];simp
   ·rw[beq_eq_false_iff_ne.2 e,beq_eq_false_iff_ne.2 fun x=>e (B.right h (by rw[x];exact k))]
inductive VCase (B:Ren):Value→Value→Prop
 | bool (b):VCase B (.bool b) (.bool b)
 | int (k n):VCase B (.int k n) (.int k n)
 | float (k n):VCase B (.float k n) (.float k n)
 | complex (k a b):VCase B (.complex k a b) (.complex k a b)
 | string (s):VCase B (.string s) (.string s)
 | ptrN:VCase B (.pointer none) (.pointer none)
 | ptr {a a'} (h:AR B a a'):VCase B (.pointer (some a)) (.pointer (some a'))
 | slcN (l c):VCase B (.slice none l c) (.slice none l c)
 | slc {a a'} (l c) (h:AR B a a'):VCase B (.slice (some a) l c) (.slice (some a') l c)
 | mapN:VCase B (.map none) (.map none)
 | map {r r'} (h:B r r'):VCase B (.map (some r)) (.map (some r'))
 | chanN:VCase B (.chan none) (.chan none)
 | chan {r r'} (h:B r r'):VCase B (.chan (some r)) (.chan (some r'))
 | func {fn fn' f f' c c'} (hf:FR B fn fn') (h1:VsRel B f f') (h2:VsRel B c c'):VCase B (.func fn f c) (.func fn' f' c')
 | nilFunc:VCase B .nilFunc .nilFunc
 | iface (t) {v v'} (h:VRel B v v'):VCase B (.iface t v) (.iface t v')
 | nilIface:VCase B .nilIface .nilIface
 | agg {c c'} (h:VsRel B c c'):VCase B (.agg c) (.agg c')
 | tuple {c c'} (h:VsRel B c c'):VCase B (.tuple c) (.tuple c')
 | slcE {a a':Addr} : VCase B (.slice (some a) 0 0) (.slice (some a') 0 0)
 | poison {v'} (h:PoisonOk v'):VCase B (.tuple #[]) v'
 | odd (n f c):VCase B (.func (.method "~") #[.iface 0 (.tuple #[])] #[]) (.func (.method n) f c)
theorem VRel.case {B:Ren} {v v':Value} (h:VRel B v v'):VCase B v v':=by
 cases h with
 | bool b=>exact .bool b
 | int k n=>exact .int k n
 | float k n=>exact .float k n
 | complex k a b=>exact .complex k a b
 | string s=>exact .string s
 | pointer h=>cases h with
  | none=>exact .ptrN
  | some h=>exact .ptr h
 | slice l c h=>cases h with
  | none=>exact .slcN l c
  | some h=>exact .slc l c h
 | empty=>exact .slcE
 | map h=>cases h with
  | none=>exact .mapN
  | some h=>exact .map h
 | chan h=>cases h with
  | none=>exact .chanN
  | some h=>exact .chan h
 | func f s1 h1 s2 h2=>exact .func f ⟨s1,h1⟩ ⟨s2,h2⟩
 | nilFunc=>exact .nilFunc
 | iface t h=>exact .iface t h
 | nilIface=>exact .nilIface
 | agg s h=>exact .agg ⟨s,h⟩
 | tuple s h=>exact .tuple ⟨s,h⟩
 | poison h=>exact .poison h
 | odd n f c=>exact .odd n f c
section
variable {P:Program} {fs:Array Func} {B:Ren}
theorem Jz {α σ : Type} (f f' : α→σ→Sem (ForInStep σ)):∀ (l:List α) (s : σ) (B:Ren) (_:∀ C x s,B.le C→SRel P (swap P fs) (Same _) C (f x s) (f' x s)),
  SRel P (swap P fs) (Same σ) B (forIn l s f) (forIn l s f')
 | [],s,B,_=>by simp only[List.forIn_nil];exact zd rfl
 | x::l,s,B,h=>by
  simp only[List.forIn_cons]
  refine zb (h B x s (Ren.le.refl _)) fun C r hl=>?_
  cases r with
  | done s=>exact zd rfl
  | yield s=>exact Jz f f' l s C fun D x s hd=>h D x s (hl.trans hd)
theorem zcg {α σ : Type} (f f' : α→σ→Sem (ForInStep σ)):∀ (l:List α) (s : σ) (B:Ren) (_:∀ C x s,x∈l→B.le C→SRel P (swap P fs) (Same _) C (f x s) (f' x s)),
  SRel P (swap P fs) (Same σ) B (forIn l s f) (forIn l s f')
 | [],s,B,_=>by simp only[List.forIn_nil];exact zd rfl
 | x::l,s,B,h=>by
  simp only[List.forIn_cons]
  refine zb (h B x s List.mem_cons_self (Ren.le.refl _)) fun C r hl=>?_
  cases r with
  | done s=>exact zd rfl
  | yield s=>exact zcg f f' l s C fun D x s hx hd=>h D x s (List.mem_cons_of_mem _ hx) (hl.trans hd)
theorem forInArray_mem {α σ : Type} {f f' : α→σ→Sem (ForInStep σ)} (a:Array α) (s : σ) (h:∀ C x s,x∈a→B.le C→SRel P (swap P fs) (Same _) C (f x s) (f' x s)) :
  SRel P (swap P fs) (Same σ) B (forIn a s f) (forIn a s f'):=by
 rw[← Array.forIn_toList,← Array.forIn_toList]
 exact zcg f f' a.toList s B fun C x s hx=>h C x s (Array.mem_toList_iff.1 hx)
theorem forInArray_same {α σ : Type} {f f' : α→σ→Sem (ForInStep σ)} (a:Array α) (s : σ) (h:∀ C x s,B.le C→SRel P (swap P fs) (Same _) C (f x s) (f' x s)) :
  SRel P (swap P fs) (Same σ) B (forIn a s f) (forIn a s f'):=by
 rw[← Array.forIn_toList,← Array.forIn_toList]
 exact Jz f f' a.toList s B h
theorem Qm {σ : Type} {f f':Nat→σ→Sem (ForInStep σ)} (n:Nat) (s : σ) (h:∀ C x s,B.le C→SRel P (swap P fs) (Same _) C (f x s) (f' x s)) :
  SRel P (swap P fs) (Same σ) B (forIn [0:n] s f) (forIn [0:n] s f'):=by
 rw[Std.Legacy.Range.forIn_eq_forIn_range',Std.Legacy.Range.forIn_eq_forIn_range']
 exact Jz f f' _ s B h
abbrev LeB:Ren→Bool→Bool→Prop:=fun _ b b'=>b'=true→b=true
theorem YH {a a':Addr} (h:AR B a a'):SRel P (swap P fs) LeB B (stringish a) (stringish a'):=by
 unfold stringish
 refine (Ye h).bind fun C b b' hl hb=>?_
 cases b with
 | true =>
  have last:SRel P (swap P fs) LeB C (pure true) (do match ← shape a'.block with|some (_,n)=>frozen { block:=a'.block,off:=n }|none=>pure false):=by
   refine SRel.shapeR fun x=>?_
   cases x with
   | none=>exact zd fun _=>rfl
   | some x=>exact SRel.frozenR fun x=>zd fun _=>rfl
  cases b' with
  | true=>exact zd fun _=>rfl
  | false=>exact last
 | false =>
  have:b'=false:=by
   cases b' with
   | false=>rfl
   | true=>exact (hb rfl).symm
  subst this
  refine zb (ZS (hl _ _ h.block)) fun D s hl2=>?_
  cases s with
  | none=>exact zd id
  | some x=>exact Ye ⟨(hl.trans hl2) _ _ h.block,rfl,rfl⟩
theorem mayBeOne_r {a a' b b':Addr} (h:AR B a a') (k:AR B b b'):SRel P (swap P fs) LeB B (mayBeOne a b) (mayBeOne a' b'):=by
 unfold mayBeOne
 have Zx:∀ (C:Ren) {x x':Addr},AR C x x'→SRel P (swap P fs) (Same Bool) C (do pure ((← shape x.block) matches some (_,0))) (do pure ((← shape x'.block) matches some (_,0))):=by
  intro C x x' hx
  exact zb (ZS hx.block) fun _ _ _=>zd rfl
 refine (YH h).bind fun C sa sa' hl h1=>?_
 refine (YH (k.mono hl)).bind fun D sb sb' hl2 h2=>?_
 refine zb (Zx D ((h.mono hl).mono hl2)) fun E x hl3=>?_
 refine zb (Zx E (((k.mono hl).mono hl2).mono hl3)) fun _ y _=>zd ?_
 clear h k
 revert h1 h2
 show ((sa'=true→sa=true)→(sb'=true→sb=true)→((sa'&&sb'||sa'&&x||sb'&&y)=true→(sa&&sb||sa&&x||sb&&y)=true))
 revert sa sa' sb sb' x y
 decide
theorem zaj {a a' b b':Addr} (h:AR B a a') (k:AR B b b'):SRel P (swap P fs) (Same Bool) B (sameAddr a b) (sameAddr a' b'):=by
 unfold sameAddr
 rw[h.beqBlock k]
 refine ite_r (fun _=>zd (h.beq k)) fun _=>?_
 refine (Ye h).bind fun C fa fa' hl h1=>?_
 refine (Ye (k.mono hl)).bind fun D fb fb' hl2 h2=>?_
 cases hc:fa&&fb with
 | true=>exact .bad trivial
 | false =>
  have hc':(fa'&&fb')=false:=by
   cases fa'<;>cases fb'<;>simp_all
  rw[hc']
  have h2:=(h.mono hl).mono hl2
  have k2:=(k.mono hl).mono hl2
  refine zb (zaG h2) fun E _ hl3=>zb (zaG (k2.mono hl3)) fun F _ hl4=>?_
  refine (mayBeOne_r ((h2.mono hl3).mono hl4) ((k2.mono hl3).mono hl4)).bind fun G m m' _ hm=>?_
  cases m with
  | true =>
   cases m' with
   | true=>exact zb (qN _) fun _ _ _=>zd rfl
   | false=>exact SRel.chooseL _ 0 0 rfl rfl (zd rfl)
  | false =>
   have:m'=false:=by
    cases m' with
    | false=>rfl
    | true=>exact (hm rfl).symm
   subst this
   exact zd rfl
theorem zaD {r r':Nat} (h:B r r'):SRel P (swap P fs) (fun C (x y:Option (Addr×Bool))=>OR (fun a b=>AR C a.1 b.1∧b.2=a.2) x y) B (numberAt r) (numberAt r'):=by
 unfold numberAt
 refine zb (ZS h) fun C s hl=>?_
 cases s with
 | some x=>exact zd .none
 | none =>
  refine (qE (hl _ _ h)).bind fun D o o' _ ho=>?_
  cases ho<;>first|exact zd .none|exact zd (.some ⟨by assumption,rfl⟩)
theorem qq {a a':Addr} (h:AR B a a'):SRel P (swap P fs) (fun C (x y:Addr×Bool)=>AR C x.1 y.1∧y.2=x.2) B (behindNumber a) (behindNumber a'):=by
 unfold behindNumber
 refine (zaD h.block).bind fun C n n' hl e=>?_
 cases e with
 | none=>exact zd ⟨h.mono hl,rfl⟩
 | some e=>exact zd e
def Zb (P:Program):Nat→TypeId→Bool
 | 0,_=>true
 | n+1,t=>match P.underlying t with
  | some (.interface _)=>false
  | some (.array _ e)=>Zb P n e
  | some (.struct fields)=>fields.all fun f=>Zb P n f.type
  | _=>true
structure Based (P:Program) (B:Ren):Prop where
 glob:B.glob=P.globals.size
 keys:∀ t k e,t<P.types.size→P.underlying t=some (.map k e)→Zb P 10000 k=true
 has:∀ (f:Nat) fn,P.funcs[f]?=some fn→fn.body.isNone=false→B.has f
theorem Based.mono {C:Ren} (h:Based P B) (hl:B.le C):Based P C:=⟨hl.glob.trans h.glob,h.keys,fun f fn a b=>by rw[hl.has];exact h.has f fn a b⟩
theorem Based.handle (_:Based P B):Zt P B:=trivial
theorem Based.lt (h:Based P B) {a b:Nat} (hab:B a b):(b<P.globals.size)↔(a<P.globals.size):=by
 have:=B.side hab
 rwa [h.glob] at this
theorem typeStr_r (t:TypeId):SRel P (swap P fs) (Same String) B (typeStr t) (typeStr t):=by
 unfold typeStr
 exact qe fun i _=>ite_r (fun _=>zp) fun _=>zd rfl
theorem zbx (P:Program) (fs:Array Func):∀ (n:Nat) (t u:TypeId),(swap P fs).alikeButTags n t u=P.alikeButTags n t u:=by
 intro n
 induction n with
 | zero=>intros;rfl
 | succ n ih =>
  intro t u
  unfold Program.alikeButTags
  simp only[ih]
theorem stoodInAs_swap (P:Program) (fs:Array Func) (t:TypeId):(swap P fs).stoodInAs t=P.stoodInAs t:=by
 unfold Program.stoodInAs
 simp only[zbx]
 rfl
theorem stoodInHeld_swap (P:Program) (fs:Array Func) (t:TypeId):(swap P fs).stoodInHeld t=P.stoodInHeld t:=by
 unfold Program.stoodInHeld
 rw[stoodInAs_swap]
theorem packed_swap (P:Program) (fs:Array Func) (t:TypeId):(swap P fs).packed t=P.packed t:=by
 unfold Program.packed Program.packedAs
 simp only[zbx]
 rfl
theorem holdsPacked_swap (P:Program) (fs:Array Func):∀ (n:Nat) (t:TypeId),(swap P fs).holdsPacked n t=P.holdsPacked n t:=by
 intro n
 induction n with
 | zero=>intros;rfl
 | succ n ih =>
  intro t
  unfold Program.holdsPacked
  simp only[ih,packed_swap]
  rfl
theorem ZF (P:Program) (fs:Array Func):∀ (n:Nat) (t:TypeId),(swap P fs).eqGuardType n t=P.eqGuardType n t:=by
 intro n
 induction n with
 | zero=>intros;rfl
 | succ n ih =>
  intro t
  unfold Program.eqGuardType
  simp only[ih]
  rfl
theorem noNumber_r (hB:Based P B) (t:TypeId) {a a' b b':Addr} (h:AR B a a') (k:AR B b b'):SRel P (swap P fs) (Same Bool) B
  (do
   let (a,b):=((← behindNumber a).1,(← behindNumber b).1)
   if a.block==b.block&&a.block<(← program).globals.size then return (← byteOf a)==(← byteOf b)
   let .named "sync.copyChecker" _:=(← typeInfo t).desc|unsupported .addressObserved
   if a==b then pure true else unsupported .addressObserved)
  (do
   let (a,b):=((← behindNumber a').1,(← behindNumber b').1)
   if a.block==b.block&&a.block<(← program).globals.size then return (← byteOf a)==(← byteOf b)
   let .named "sync.copyChecker" _:=(← typeInfo t).desc|unsupported .addressObserved
   if a==b then pure true else unsupported .addressObserved):=by
 refine (qq h).bind fun C x x' hl ⟨hx,_⟩=>(qq (k.mono hl)).bind fun D y y' hl2 ⟨hy,_⟩=>?_
 have hx:=hx.mono hl2
 refine zN ?_
 show SRel _ _ _ _ (if (x.1.block==y.1.block&&decide (x.1.block<P.globals.size))=true then _ else _) (if (x'.1.block==y'.1.block&&decide (x'.1.block<P.globals.size))=true then _ else _)
 rw[hx.beqBlock hy,decide_eq_decide.2 (((hB.mono hl).mono hl2).lt hx.block)]
 refine ite_r (fun _=>?_) fun _=>?_
 ·exact zb (Zg hx) fun E m hl3=>zb (Zg (hy.mono hl3)) fun _ _ _=>zd rfl
 ·refine qe fun i _=>?_
  rw[hx.beq hy]
  split
  ·exact ite_r (fun _=>zd rfl) fun _=>zp
  ·exact zp
theorem yP (hB:Based P B):∀ (d:Nat) (t:TypeId) {C:Ren} {v v' u u':Value},B.le C→VRel C v v'→VRel C u u'→SRel P (swap P fs) (Same Bool) C (Op.equalIn d t v u) (Op.equalIn d t v' u')
 | 0,t,C,v,v',u,u',_,_,_=>by unfold Op.equalIn;exact zp
 | d+1,t,C,v,v',u,u',hl,hv,hu=>by
  have hC:=hB.mono hl
  unfold Op.equalIn
  refine zm fun desc _=>?_
  have cv:=hv.case
  have cu:=hu.case
  cases desc with
  | pointer elem =>
   cases cv<;>first|exact ze|(cases cu<;>first|exact ze|exact zd rfl|skip)
   rename_i h _ _ k
   exact zS fun n=>ite_r (fun _=>zaj h k) fun _=>by
      rw[h.beq k]
      exact ite_r (fun _=>zd rfl) fun _=>zb (qN _) fun _ _ _=>zd rfl
  | struct fields =>
   cases cv<;>first|exact ze|(cases cu<;>first|exact ze|skip)
   rename_i h1 _ _ h2
   refine zN ?_
   simp only[stoodInHeld_swap]
   refine ite_r (fun _=>qb) fun _=>?_
   refine zb (s:=forIn fields (none,()) _) (s':=forIn fields (none,()) _) (forInArray_same fields _ fun D f s hl2=>?_) fun D r hl2=>?_
   ·refine ite_r (fun _=>?_) fun _=>zd rfl
    refine (Qu _ _ (VsRel.mono hl2 h1)).bind fun E x x' hl3 hx=>(Qu _ _ (VsRel.mono hl3 (VsRel.mono hl2 h2))).bind fun F y y' hl4 hy=>?_
    refine zb (yP hB d _ (((hl.trans hl2).trans hl3).trans hl4) (hx.mono hl4) hy) fun G b _=>?_
    exact ite_r (fun _=>zd rfl) fun _=>zd rfl
   ·obtain⟨r,_⟩:=r
    cases r<;>exact zd rfl
  | array len elem =>
   cases cv<;>first|exact ze|(cases cu<;>first|exact ze|skip)
   rename_i h1 _ _ h2
   refine zS fun n=>?_
   refine zb (s:=forIn [0:len] (none,()) _) (s':=forIn [0:len] (none,()) _) (Qm len _ fun D f s hl2=>?_) fun D r hl2=>?_
   ·refine (Qu _ _ (VsRel.mono hl2 h1)).bind fun E x x' hl3 hx=>(Qu _ _ (VsRel.mono hl3 (VsRel.mono hl2 h2))).bind fun F y y' hl4 hy=>?_
    refine zb (yP hB d _ (((hl.trans hl2).trans hl3).trans hl4) (hx.mono hl4) hy) fun G b _=>?_
    exact ite_r (fun _=>zd rfl) fun _=>zd rfl
   ·obtain⟨r,_⟩:=r
    cases r<;>exact zd rfl
  | int kd =>
   cases cv<;>first|exact ze|exact zp|(cases cu<;>first|exact ze|exact zp|exact zd rfl|exact ite_r (fun _=>zd rfl) (fun _=>ze)|exact noNumber_r hC t (by assumption) (by assumption)|skip)
   ·rename_i n _ _ _
    rcases n with (_|n)|n<;>first|exact zd rfl|exact zp
   ·rename_i n
    rcases n with (_|n)|n<;>first|exact zd rfl|exact zp
  | interface ms =>
   cases cv<;>first|exact ze|(cases cu<;>first|exact ze|exact zd rfl|skip)
   rename_i tx _ _ h _ _ _ k
   refine ite_r (fun _=>zd rfl) fun _=>qe fun i _=>?_
   refine ite_r (fun _=>?_) fun _=>yP hB d _ hl h k
   refine zN (zN ?_)
   simp only[holdsPacked_swap]
   refine ite_r (fun _=>qb) fun _=>?_
   exact zb (typeStr_r _) fun _ _ hl2=>zG (hC.mono hl2).handle _
  | chan dir elem =>
   cases cv<;>first|exact ze|(cases cu<;>first|exact ze|exact zd rfl|skip)
   rename_i h _ _ k
   refine zd ?_
   exact OR.beqNat (B:=C) (.some h) (.some k)
  | unsafePointer =>
   cases cv<;>first|exact ze|(cases cu<;>first|exact ze|exact zd rfl|skip)
   rename_i h _ _ k
   exact zaj h k
  | _ =>
   cases cv<;>first|exact ze|exact zp|(cases cu<;>first|exact ze|exact zp|exact zd rfl|exact ite_r (fun _=>zd rfl) (fun _=>ze)|skip)
end
end
end Go.Par
