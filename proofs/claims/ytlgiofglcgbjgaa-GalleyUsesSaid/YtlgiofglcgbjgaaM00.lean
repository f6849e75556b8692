/- Two runs beside each other: values, memory and the model's free programs, related by a renaming of blocks. -/
import GoSem.Step
import Derived.StepT
import Derived.Laws.Sem
import Derived.Conc.Events
namespace Go.Par
open Go
structure Ren where
 rel:Nat→Nat→Prop
 ok:Code→Prop
 okF:FuncId→Prop
 has:FuncId→Prop
 glob:Nat
 out:Prop
 side:∀ {a b},rel a b→(b<glob↔a<glob)
 left:∀ {a b c},rel a b→rel a c→b=c
 right:∀ {a b c},rel a c→rel b c→a=b
instance:CoeFun Ren (fun _=>Nat→Nat→Prop):=⟨Ren.rel⟩
structure Ren.le (B C:Ren):Prop where
 sub:∀ a b,B.rel a b→C.rel a b
 ok:C.ok=B.ok
 okF:C.okF=B.okF
 has:C.has=B.has
 glob:C.glob=B.glob
 out:C.out=B.out
instance {B C:Ren} : CoeFun (Ren.le B C) (fun _=>∀ a b,B.rel a b→C.rel a b):=⟨Ren.le.sub⟩
theorem Ren.le.refl (B:Ren):B.le B:=⟨fun _ _ h=>h,rfl,rfl,rfl,rfl,rfl⟩
theorem Ren.le.trans {A B C:Ren} (h:A.le B) (k:B.le C):A.le C:=⟨fun a b x=>k a b (h a b x),k.ok.trans h.ok,k.okF.trans h.okF,k.has.trans h.has,k.glob.trans h.glob,k.out.trans h.out⟩
structure Ren.up (B C:Ren) (n n':Nat):Prop where
 le:B.le C
 new:∀ a b,C.rel a b→B.rel a b∨(n≤a∧n'≤b)
instance {B C:Ren} {n n':Nat} : CoeFun (Ren.up B C n n') (fun _=>∀ a b,B.rel a b→C.rel a b):=⟨fun h=>h.le.sub⟩
theorem Ren.up.refl (B:Ren) (n n':Nat):B.up B n n':=⟨.refl B,fun _ _ h=>.inl h⟩
theorem Ren.up.trans {A B C:Ren} {n n' m m':Nat} (h:A.up B n n') (k:B.up C m m') (e:n≤m) (e':n'≤m'):A.up C n n':=
 ⟨h.le.trans k.le,fun a b x=>by
  rcases k.new a b x with y|⟨y,z⟩
  ·exact h.new a b y
  ·exact .inr ⟨Nat.le_trans e y,Nat.le_trans e' z⟩⟩
def Rows {α β : Type} (R : α→β→Prop) (a:Array α) (b:Array β):Prop:=b.size=a.size∧∀ (i:Nat) x y,a[i]?=some x→b[i]?=some y→R x y
inductive OR {α β : Type} (R : α→β→Prop):Option α→Option β→Prop
 | none:OR R none none
 | some {a b} : R a b→OR R (some a) (some b)
structure AR (B:Ren) (a a':Addr):Prop where
 block:B a.block a'.block
 off:a'.off=a.off
 spot:a'.spot=a.spot
inductive FR (B:Ren):Fn→Fn→Prop
 | func (f):FR B (.func f) (.func f)
 | yield {l l'} : B l l'→FR B (.yield l) (.yield l')
structure PoisonOk (v:Value):Prop where
 agg:∀ c,v≠.agg c
 bool:∀ b,v≠.bool b
 ptr:v≠.pointer none
 iface:v≠.nilIface
 func:v≠.nilFunc
 meth:∀ n f c,v≠.func (.method n) f c
abbrev junk:Value:=.iface 0 (.tuple #[])
inductive VRel (B:Ren):Value→Value→Prop
 | bool (b):VRel B (.bool b) (.bool b)
 | int (k n):VRel B (.int k n) (.int k n)
 | float (k n):VRel B (.float k n) (.float k n)
 | complex (k a b):VRel B (.complex k a b) (.complex k a b)
 | string (s):VRel B (.string s) (.string s)
 | pointer {a a'} : OR (AR B) a a'→VRel B (.pointer a) (.pointer a')
 | slice {a a'} (l c):OR (AR B) a a'→VRel B (.slice a l c) (.slice a' l c)
 | empty {a a':Addr} : VRel B (.slice (some a) 0 0) (.slice (some a') 0 0)
 | map {r r'} : OR B.rel r r'→VRel B (.map r) (.map r')
 | chan {r r'} : OR B.rel r r'→VRel B (.chan r) (.chan r')
 | func {fn fn'} {f f' c c':Array Value} : FR B fn fn'→f'.size=f.size→(∀ (i:Nat) x y,f[i]?=some x→f'[i]?=some y→VRel B x y) →
   c'.size=c.size→(∀ (i:Nat) x y,c[i]?=some x→c'[i]?=some y→VRel B x y)→VRel B (.func fn f c) (.func fn' f' c')
 | nilFunc:VRel B .nilFunc .nilFunc
 | iface (t) {v v'} : VRel B v v'→VRel B (.iface t v) (.iface t v')
 | nilIface:VRel B .nilIface .nilIface
 | agg {c c':Array Value} : c'.size=c.size→(∀ (i:Nat) x y,c[i]?=some x→c'[i]?=some y→VRel B x y)→VRel B (.agg c) (.agg c')
 | tuple {c c':Array Value} : c'.size=c.size→(∀ (i:Nat) x y,c[i]?=some x→c'[i]?=some y→VRel B x y)→VRel B (.tuple c) (.tuple c')
 | poison {v'} : PoisonOk v'→VRel B (.tuple #[]) v'
 | odd (n f c):VRel B (.func (.method "~") #[.iface 0 (.tuple #[])] #[]) (.func (.method n) f c)
abbrev VsRel (B:Ren):=Rows (VRel B)
inductive TR (B:Ren):Target→Target→Prop
 | fn {f f' c c'} : FR B f f'→VsRel B c c'→TR B (.fn f c) (.fn f' c')
 | nil:TR B .nil .nil
 | builtin (b ts t cs):TR B (.builtin b ts t cs) (.builtin b ts t cs)
 | collected {r r'} : B r r'→TR B (.collected r) (.collected r')
def Jc:Builtin→Prop
 | .append|.cap|.clear|.close|.copy|.len|.max|.min=>True
 | _=>False
def Zh:Target→Prop
 | .builtin b ..=>Jc b
 | .coroexit _=>False
 | .collected _=>True
 | _=>True
inductive DR (B:Ren) (d d':Deferred):Prop
 | reg:TR B d.target d'.target→VsRel B d.args d'.args→Zh d.target→DR B d d'
 | odd (n c):d.target=.fn (.method "~") #[]→d.args[0]?=some junk→d'.target=.fn (.method n) c→DR B d d'
theorem DR.ok {B:Ren} {d d':Deferred} (h:DR B d d'):Zh d.target:=by
 cases h with
 | reg _ _ h=>exact h
 | odd n c h _ _=>rw[h];trivial
structure ER (B:Ren) (e e':MapEntry):Prop where
 key:VRel B e.key e'.key
 val:VRel B e.val e'.val
 born:e'.born=e.born
inductive LR {α β : Type} (R : α→β→Prop):List α→List β→Prop
 | nil:LR R [] []
 | cons {a b l m} : R a b→LR R l m→LR R (a::l) (b::m)
structure LoopR (B:Ren) (l l':Loop):Prop where
 state:l'.state=l.state
 pending:l'.pending=l.pending
 fn:l'.fn=l.fn
 tmps:VsRel B l.tmps l'.tmps
 params:l'.params=l.params
 assign:l'.assign=l.assign
 body:l'.body=l.body
 defers:B l.defers l'.defers
 okA:B.ok l.assign
 okB:B.ok l.body
 okP:∀ c,l.pending=some c→B.ok c
 okN:B.okF l.fn
structure MaskR (fr fr':Nat×Nat):Prop where
 sub:fr'.1<fr'.2→fr.1≤fr'.1∧fr'.2≤fr.2
theorem MaskR.zero:MaskR (0,0) (0,0):=⟨fun h=>absurd h (Nat.lt_irrefl _)⟩
inductive ORel (B:Ren):Obj→Obj→Prop
 | cells {c c'} (t) {fr fr'} : MaskR fr fr'→VsRel B c c'→ORel B (.cells c t fr) (.cells c' t fr')
 | map {es es'} (k):Rows (ER B) es es'→ORel B (.map es k) (.map es' k)
 | chan (n) {b b'} (c s r t):VsRel B b b'→ORel B (.chan n b c s r t) (.chan n b' c s r t)
 | stringIter (s p):ORel B (.stringIter s p) (.stringIter s p)
 | mapIter {m m'} (s n k):OR B.rel m m'→ORel B (.mapIter m s n k) (.mapIter m' s n k)
 | loop {l l'} : LoopR B l l'→ORel B (.loop l) (.loop l')
 | deferred {d d'} : OR (LR (DR B)) d d'→ORel B (.deferred d) (.deferred d')
 | number {a a'} (l):AR B a a'→ORel B (.number a l) (.number a' l)
inductive MR (B:Ren):Mark→Mark→Prop
 | extern (f):MR B (.extern f) (.extern f)
 | noRoom:MR B .noRoom .noRoom
inductive LocR (B:Ren):Loc→Loc→Prop
 | cell {a a'} : AR B a a'→LocR B (.cell a) (.cell a')
 | obj {r r'} : B r r'→LocR B (.obj r) (.obj r')
 | mark {m m'} : MR B m m'→LocR B (.mark m) (.mark m')
 | output:B.out→LocR B .output .output
structure EvR (B:Ren) (e e':Event):Prop where
 loc:LocR B e.loc e'.loc
 write:e'.write=e.write
 sync:e'.sync=e.sync
def _root_.Go.Halt.bad:Halt→Prop
 | .unsupported (.initOrder _)=>False
 | .unsupported _|.stuck _=>True
 | _=>False
inductive Doomed (P:Program) {α : Type} : Sem α→Prop
 | halt {h} : h.bad→Doomed P (.halt h)
 | new {o k} : (∀ r,Doomed P (k r))→Doomed P (.new o k)
 | choose {q k} : (∀ n,Doomed P (k n))→Doomed P (.choose q k)
 | program {k} : Doomed P (k P)→Doomed P (.program k)
 | mark {m k} : Doomed P k→Doomed P (.mark m k)
 | sys {c k} : (∀ r,Doomed P (k r))→Doomed P (.sys c k)
 | shape {r k} : (∀ s,Doomed P (k s))→Doomed P (.shape r k)
 | frozen {a k} : (∀ s,Doomed P (k s))→Doomed P (.frozen a k)
theorem Doomed.bind {P:Program} {α β : Type} {s:Sem α} {f : α→Sem β} (h:Doomed P s):Doomed P (s >>= f):=by
 show Doomed P (Sem.bind s f)
 induction h with
 | halt h=>exact .halt h
 | new _ ih=>exact .new ih
 | choose _ ih=>exact .choose ih
 | program _ ih=>exact .program ih
 | mark _ ih=>exact .mark ih
 | sys _ ih=>exact .sys ih
 | shape _ ih=>exact .shape ih
 | frozen _ ih=>exact .frozen ih
inductive SRel (P P':Program) {α α':Type} (R:Ren→α→α'→Prop):Ren→Sem α→Sem α'→Prop
 | pure {B a a'} : R B a a'→SRel P P' R B (.pure a) (.pure a')
 | load {B} (m) {a a' k k'} : AR B a a'→(∀ v v',VRel B v v'→SRel P P' R B (k v) (k' v'))→SRel P P' R B (.load m a k) (.load m a' k')
 | store {B} (m) {a a' v v' k k'} : AR B a a'→VRel B v v'→SRel P P' R B k k'→SRel P P' R B (.store m a v k) (.store m a' v' k')
 | new {B o o' k k'} : ORel B o o'→(∀ B' r r',B.le B'→B' r r'→SRel P P' R B' (k r) (k' r'))→SRel P P' R B (.new o k) (.new o' k')
 | shape {B r r' k k'} : B r r'→(∀ s,SRel P P' R B (k s) (k' s))→SRel P P' R B (.shape r k) (.shape r' k')
 | frozen {B a a' k k'} : AR B a a'→(∀ b b',(b'=true→b=true)→SRel P P' R B (k b) (k' b'))→SRel P P' R B (.frozen a k) (.frozen a' k')
 | shapeR {B s r' k'} : (∀ x,SRel P P' R B s (k' x))→SRel P P' R B s (.shape r' k')
 | frozenR {B s a' k'} : (∀ x,SRel P P' R B s (k' x))→SRel P P' R B s (.frozen a' k')
 | getObj {B r r' k k'} : B r r'→(∀ o o',ORel B o o'→SRel P P' R B (k o) (k' o'))→SRel P P' R B (.getObj r k) (.getObj r' k')
 | setObj {B r r' o o' k k'} : B r r'→ORel B o o'→SRel P P' R B k k'→SRel P P' R B (.setObj r o k) (.setObj r' o' k')
 | choose {B} (q) {k k'} : (∀ n,SRel P P' R B (k n) (k' n))→SRel P P' R B (.choose q k) (.choose q k')
 | chooseL {B} (q n r) {k s'} : q.forced=false→q.cut r=n→SRel P P' R B (k n) s'→SRel P P' R B (.choose q k) s'
 | program {B k k'} : SRel P P' R B (k P) (k' P')→SRel P P' R B (.program k) (.program k')
 | mark {B m m' k k'} : MR B m m'→SRel P P' R B k k'→SRel P P' R B (.mark m k) (.mark m' k')
 | doomed {B s s'} : Doomed P s→SRel P P' R B s s'
 | env {B k k'} : B.out→(∀ r,SRel P P' R B (k r) (k' r))→SRel P P' R B (.sys .env k) (.sys .env k')
 | panic {B v v'} : VRel B v v'→SRel P P' R B (.halt (.panic v)) (.halt (.panic v'))
 | bad {B h s'} : h.bad→SRel P P' R B (.halt h) s'
section
variable {B C:Ren}
theorem AR.mono (h:B.le C) {a a'} (x:AR B a a'):AR C a a':=⟨h _ _ x.block,x.off,x.spot⟩
theorem OR.mono {α β : Type} {R S : α→β→Prop} (h:∀ a b,R a b→S a b) {a b} (x:OR R a b):OR S a b:=by
 cases x with
 | none=>exact .none
 | some x=>exact .some (h _ _ x)
theorem Rows.mono {α β : Type} {R S : α→β→Prop} (h:∀ a b,R a b→S a b) {a b} (x:Rows R a b):Rows S a b:=⟨x.1,fun i u v hu hv=>h _ _ (x.2 i u v hu hv)⟩
theorem LR.mono {α β : Type} {R S : α→β→Prop} (h:∀ a b,R a b→S a b) {a b} (x:LR R a b):LR S a b:=by
 induction x with
 | nil=>exact .nil
 | cons x _ ih=>exact .cons (h _ _ x) ih
theorem FR.mono (h:B.le C) {f f'} (x:FR B f f'):FR C f f':=by
 cases x with
 | func f=>exact .func f
 | yield x=>exact .yield (h _ _ x)
theorem VRel.mono (h:B.le C) {v v'} (x:VRel B v v'):VRel C v v':=by
 induction x with
 | bool b=>exact .bool b
 | int k n=>exact .int k n
 | float k n=>exact .float k n
 | complex k a b=>exact .complex k a b
 | string s=>exact .string s
 | pointer x=>exact .pointer (x.mono fun _ _=>AR.mono h)
 | slice l c x=>exact .slice l c (x.mono fun _ _=>AR.mono h)
 | empty=>exact .empty
 | map x=>exact .map (x.mono h.sub)
 | chan x=>exact .chan (x.mono h.sub)
 | func f s1 _ s2 _ i1 i2=>exact .func (f.mono h) s1 i1 s2 i2
 | nilFunc=>exact .nilFunc
 | iface t _ ih=>exact .iface t ih
 | nilIface=>exact .nilIface
 | agg s _ ih=>exact .agg s ih
 | tuple s _ ih=>exact .tuple s ih
 | poison h=>exact .poison h
 | odd n f c=>exact .odd n f c
theorem VsRel.mono (h:B.le C) {a b} (x:VsRel B a b):VsRel C a b:=Rows.mono (fun _ _=>VRel.mono h) x
theorem TR.mono (h:B.le C) {t t'} (x:TR B t t'):TR C t t':=by
 cases x with
 | fn f c=>exact .fn (f.mono h) (VsRel.mono h c)
 | nil=>exact .nil
 | builtin b ts t cs=>exact .builtin b ts t cs
 | collected x=>exact .collected (h _ _ x)
theorem DR.mono (h:B.le C) {d d'} (x:DR B d d'):DR C d d':=by
 cases x with
 | reg a b c=>exact .reg (a.mono h) (VsRel.mono h b) c
 | odd n c a b e=>exact .odd n c a b e
theorem ER.mono (h:B.le C) {d d'} (x:ER B d d'):ER C d d':=⟨x.key.mono h,x.val.mono h,x.born⟩
theorem LoopR.mono (h:B.le C) {d d'} (x:LoopR B d d'):LoopR C d d':=⟨x.state,x.pending,x.fn,VsRel.mono h x.tmps,x.params,x.assign,x.body,h _ _ x.defers,by rw[h.ok];exact x.okA,by rw[h.ok];exact x.okB,by rw[h.ok];exact x.okP,by rw[h.okF];exact x.okN⟩
theorem ORel.mono (h:B.le C) {o o'} (x:ORel B o o'):ORel C o o':=by
 cases x with
 | cells t m x=>exact .cells t m (VsRel.mono h x)
 | map k x=>exact .map k (x.mono fun _ _=>ER.mono h)
 | chan n c s r t x=>exact .chan n c s r t (VsRel.mono h x)
 | stringIter s p=>exact .stringIter s p
 | mapIter s n k x=>exact .mapIter s n k (x.mono h.sub)
 | loop x=>exact .loop (x.mono h)
 | deferred x=>exact .deferred (x.mono fun _ _ y=>y.mono fun _ _=>DR.mono h)
 | number l x=>exact .number l (x.mono h)
theorem MR.mono (_:B.le C) {m m'} (x:MR B m m'):MR C m m':=by
 cases x with
 | extern f=>exact .extern f
 | noRoom=>exact .noRoom
theorem LocR.mono (h:B.le C) {l l'} (x:LocR B l l'):LocR C l l':=by
 cases x with
 | cell x=>exact .cell (x.mono h)
 | obj x=>exact .obj (h _ _ x)
 | mark x=>exact .mark (x.mono h)
 | output ho=>exact .output (by rw[h.out];exact ho)
theorem EvR.mono (h:B.le C) {e e'} (x:EvR B e e'):EvR C e e':=⟨x.loc.mono h,x.write,x.sync⟩
end
section
variable {α β : Type} {R : α→β→Prop} {a:Array α} {b:Array β}
theorem Rows.size (h:Rows R a b):b.size=a.size:=h.1
theorem Rows.get (h:Rows R a b) {i:Nat} {x : α} (hx:a[i]?=some x):∃ y,b[i]?=some y∧R x y:=by
 have hi:i<a.size:=(Array.getElem?_eq_some_iff.1 hx).1
 have hi':i<b.size:=by rw[h.1];exact hi
 exact⟨b[i],by simp[hi'],h.2 i x _ hx (by simp[hi'])⟩
theorem Rows.getO (h:Rows R a b) (i:Nat):OR R a[i]? b[i]?:=by
 cases hx:a[i]? with
 | some x=>obtain⟨y,hy,hr⟩:=h.get hx;rw[hy];exact .some hr
 | none =>
  have:a.size≤i:=by simpa using hx
  have:b[i]?=none:=by rw[Array.getElem?_eq_none];rw[h.1];exact this
  rw[this];exact .none
theorem Rows.of (hs:b.size=a.size) (h:∀ i (h1:i<a.size) (h2:i<b.size),R a[i] b[i]):Rows R a b:=
 ⟨hs,fun i x y hx hy=>by
  obtain⟨h1,rfl⟩:=Array.getElem?_eq_some_iff.1 hx
  obtain⟨h2,rfl⟩:=Array.getElem?_eq_some_iff.1 hy
  exact h i h1 h2⟩
theorem Rows.elem (h:Rows R a b) (i:Nat) (h1:i<a.size) (h2:i<b.size):R a[i] b[i]:=h.2 i _ _ (by simp[h1]) (by simp[h2])
theorem Rows.empty:Rows R #[] #[]:=⟨rfl,fun i x y hx=>by simp at hx⟩
theorem Rows.push (h:Rows R a b) {x : α} {y : β} (hr:R x y):Rows R (a.push x) (b.push y):=by
 refine Rows.of (by simp[h.1]) fun i h1 h2=>?_
 simp only[Array.getElem_push]
 have hs:=h.1
 split<;>split
 ·exact h.elem i _ _
 ·omega
 ·omega
 ·exact hr
theorem Rows.append (h:Rows R a b) {c:Array α} {d:Array β} (k:Rows R c d):Rows R (a++c) (b++d):=by
 refine Rows.of (by simp[h.1,k.1]) fun i h1 h2=>?_
 have hs:=h.1
 have ks:=k.1
 simp only[Array.getElem_append]
 split<;>split
 ·exact h.elem i _ _
 ·omega
 ·omega
 ·simp only[hs];exact k.elem _ _ _
theorem Rows.set (h:Rows R a b) (i:Nat) {x : α} {y : β} (hr:R x y):Rows R (a.setIfInBounds i x) (b.setIfInBounds i y):=by
 refine⟨by simp[h.1],fun j u v hu hv=>?_⟩
 rw[Array.getElem?_setIfInBounds] at hu hv
 have hs:=h.1
 split at hu
 ·rename_i e
  rw[if_pos e] at hv
  split at hu
  ·rw[if_pos (by omega)] at hv;cases hu;cases hv;exact hr
  ·cases hu
 ·rename_i e
  rw[if_neg e] at hv
  exact h.2 _ _ _ hu hv
theorem Rows.extract (h:Rows R a b) (i j:Nat):Rows R (a.extract i j) (b.extract i j):=by
 refine⟨by simp[h.1],fun k x y hx hy=>?_⟩
 rw[Array.getElem?_extract] at hx hy
 split at hx
 ·split at hy
  ·exact h.2 _ _ _ hx hy
  ·cases hy
 ·cases hx
theorem Rows.map {γ δ : Type} {S : γ→δ→Prop} {f : α→γ} {g : β→δ} (h:Rows R a b) (hf:∀ x y,R x y→S (f x) (g y)):Rows S (a.map f) (b.map g):=by
 refine Rows.of (by simp[h.1]) fun k h1 h2=>?_
 simp only[Array.getElem_map]
 exact hf _ _ (h.elem _ _ _)
theorem Rows.replicate (n:Nat) {x : α} {y : β} (hr:R x y):Rows R (Array.replicate n x) (Array.replicate n y):=
 Rows.of (by simp) fun i h1 h2=>by simpa using hr
theorem Rows.one {x : α} {y : β} (hr:R x y):Rows R #[x] #[y]:=(Rows.empty.push hr)
theorem Rows.toList (h:Rows R a b):LR R a.toList b.toList:=by
 obtain⟨l⟩:=a
 obtain⟨m⟩:=b
 obtain⟨hs,h⟩:=h
 simp only[List.size_toArray] at hs
 revert hs
 induction l generalizing m with
 | nil=>intro hs;cases m with
  | nil=>exact .nil
  | cons y m=>simp at hs
 | cons x l ih=>intro hs;cases m with
  | nil=>simp at hs
  | cons y m=>exact .cons (h 0 x y (by simp) (by simp)) (ih m (fun i u v hu hv=>h (i+1) u v (by simpa using hu) (by simpa using hv)) (by simpa using hs))
theorem LR.toArray {l:List α} {m:List β} (h:LR R l m):Rows R l.toArray m.toArray:=by
 induction h with
 | nil=>exact Rows.empty
 | @cons x y l m hr _ ih =>
  refine⟨by have:=ih.1;simp at this ⊢;exact this,fun i u v hu hv=>?_⟩
  cases i with
  | zero=>simp at hu hv;subst hu;subst hv;exact hr
  | succ i=>exact ih.2 i u v (by simpa using hu) (by simpa using hv)
theorem LR.append {l:List α} {m:List β} (h:LR R l m) {l2:List α} {m2:List β} (k:LR R l2 m2):LR R (l++l2) (m++m2):=by
 induction h with
 | nil=>exact k
 | cons hr _ ih=>exact .cons hr ih
end
theorem VRel.cells {B:Ren} {v v':Value} (h:VRel B v v'):VsRel B v.cells v'.cells:=by
 by_cases hp:∃ c,v'=.agg c
 ·obtain⟨c,rfl⟩:=hp
  cases h with
  | agg h1 h2=>exact⟨h1,h2⟩
  | poison h1=>exact (h1.agg c rfl).elim
 have e:v'.cells=#[v']:=by
  cases v' with
  | agg c=>exact (hp ⟨c,rfl⟩).elim
  | _=>rfl
 have e':v.cells=#[v]:=by
  cases h with
  | agg _ _=>exact (hp ⟨_,rfl⟩).elim
  | _=>rfl
 rw[e,e']
 exact Rows.one h
theorem VRel.undef (B:Ren):VRel B Go.undef Go.undef:=.tuple rfl (fun i x y h=>by simp at h)
theorem AR.add {B:Ren} {a a':Addr} (h:AR B a a') (n:Nat):AR B (a.add n) (a'.add n):=by
 unfold Addr.add
 split
 ·exact h
 ·exact⟨h.block,by simp[h.off],rfl⟩
theorem SRel.bind {P P':Program} {α α' β β':Type} {R:Ren→α→α'→Prop} {S:Ren→β→β'→Prop} {B:Ren} {s:Sem α} {s':Sem α'} {f : α→Sem β} {f' : α'→Sem β'}
  (h:SRel P P' R B s s') (hf:∀ C a a',B.le C→R C a a'→SRel P P' S C (f a) (f' a')):SRel P P' S B (s >>= f) (s' >>= f'):=by
 show SRel P P' S B (Sem.bind s f) (Sem.bind s' f')
 induction h with
 | pure h=>exact hf _ _ _ (Ren.le.refl _) h
 | load m ha _ ih=>exact .load m ha fun v v' hv=>ih v v' hv hf
 | store m ha hv _ ih=>exact .store m ha hv (ih hf)
 | new ho _ ih=>exact .new ho fun C r r' hl hr=>ih C r r' hl hr fun D a a' hd=>hf D a a' (hl.trans hd)
 | shape hr _ ih=>exact .shape hr fun s=>ih s hf
 | frozen ha _ ih=>exact .frozen ha fun b b' hb=>ih b b' hb hf
 | shapeR _ ih=>exact .shapeR fun x=>ih x hf
 | frozenR _ ih=>exact .frozenR fun x=>ih x hf
 | getObj hr _ ih=>exact .getObj hr fun o o' ho=>ih o o' ho hf
 | setObj hr ho _ ih=>exact .setObj hr ho (ih hf)
 | choose q _ ih=>exact .choose q fun n=>ih n hf
 | chooseL q n r hq hr _ ih=>exact .chooseL q n r hq hr (ih hf)
 | program _ ih=>exact .program (ih hf)
 | mark hm _ ih=>exact .mark hm (ih hf)
 | doomed h=>exact .doomed h.bind
 | env ho _ ih=>exact .env ho fun r=>ih r hf
 | panic h=>exact .panic h
 | bad hb=>exact .bad hb
theorem SRel.weaken {P P':Program} {α α':Type} {R S:Ren→α→α'→Prop} {B:Ren} {s:Sem α} {s':Sem α'}
  (h:SRel P P' R B s s') (hf:∀ C a a',B.le C→R C a a'→S C a a'):SRel P P' S B s s':=by
 induction h with
 | pure h=>exact .pure (hf _ _ _ (Ren.le.refl _) h)
 | load m ha _ ih=>exact .load m ha fun v v' hv=>ih v v' hv hf
 | store m ha hv _ ih=>exact .store m ha hv (ih hf)
 | new ho _ ih=>exact .new ho fun C r r' hl hr=>ih C r r' hl hr fun D a a' hd=>hf D a a' (hl.trans hd)
 | shape hr _ ih=>exact .shape hr fun s=>ih s hf
 | frozen ha _ ih=>exact .frozen ha fun b b' hb=>ih b b' hb hf
 | shapeR _ ih=>exact .shapeR fun x=>ih x hf
 | frozenR _ ih=>exact .frozenR fun x=>ih x hf
 | getObj hr _ ih=>exact .getObj hr fun o o' ho=>ih o o' ho hf
 | setObj hr ho _ ih=>exact .setObj hr ho (ih hf)
 | choose q _ ih=>exact .choose q fun n=>ih n hf
 | chooseL q n r hq hr _ ih=>exact .chooseL q n r hq hr (ih hf)
 | program _ ih=>exact .program (ih hf)
 | mark hm _ ih=>exact .mark hm (ih hf)
 | doomed h=>exact .doomed h
 | env ho _ ih=>exact .env ho fun r=>ih r hf
 | panic h=>exact .panic h
 | bad hb=>exact .bad hb
end Go.Par
