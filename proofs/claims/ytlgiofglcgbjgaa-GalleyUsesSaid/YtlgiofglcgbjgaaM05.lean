/- Pointer arithmetic, the binary operators, run beside themselves. What one operation does, run beside itself: calls, iterators' loops, the whole table of operations. One operation, whole. .. -/
import Derived.Test.YtlgiofglcgbjgaaM04
namespace Go.Par
open Go
section
theorem byteOfCell_swap (P:Program) (fs:Array Func):∀ (d:Nat) (t:TypeId) (o:Nat),byteOfCell (swap P fs) d t o=byteOfCell P d t o:=by
 intro d
 induction d with
 | zero=>intros;rfl
 | succ d ih =>
  intro t o
  unfold byteOfCell
  simp only[ih]
  rfl
theorem cellOfByte_swap (P:Program) (fs:Array Func):∀ (d:Nat) (t:TypeId) (o:Nat),cellOfByte (swap P fs) d t o=cellOfByte P d t o:=by
 intro d
 induction d with
 | zero=>intros;rfl
 | succ d ih =>
  intro t o
  unfold cellOfByte
  simp only[ih]
  rfl
theorem cellAtBytes_swap (P:Program) (fs:Array Func) (d:Nat) (e:TypeId) (c o:Nat) (b:Int):cellAtBytes (swap P fs) d e c o b=cellAtBytes P d e c o b:=by
 unfold cellAtBytes
 simp only[byteOfCell_swap,cellOfByte_swap]
 rfl
section
variable {P:Program} {fs:Array Func} {B:Ren}
abbrev VRN:Ren→Value→Value→Prop:=fun B v v'=>VRel B v v'∧v≠.tuple #[]
theorem VRN.ptr {C:Ren} {a a':Addr} (h:AR C a a'):VRN C (.pointer (some a)) (.pointer (some a')):=⟨.pointer (.some h),by simp⟩
theorem JH (ts:Array TypeId) (t:TypeId) {v v' u u':Value} (hv:VRel B v v') (hu:VRel B u u'):SRel P (swap P fs) VRN B (Builtin.unsafeAdd_ ts t #[v,u]) (Builtin.unsafeAdd_ ts t #[v',u']):=by
 unfold Builtin.unsafeAdd_
 have hp:=hv
 cases hv<;>first|exact ze|skip
 rename_i a a' ha
 refine zb (Qi hu) fun C n hl=>?_
 refine ite_r (fun _=>?_) fun _=>ite_r (fun _=>qb) fun _=>?_
 ·cases ha with
  | none=>exact zp
  | some ha=>exact zb (zcM (hl _ _ ha.block)) fun D s l2=>ite_r (fun _=>qb) fun _=>zd (VRN.ptr (ha.mono (hl.trans l2)))
 ·cases ha with
  | none=>exact zp
  | some ha =>
   refine zb (ZS (hl _ _ ha.block)) fun D s l2=>?_
   cases s with
   | none=>exact zp
   | some x =>
    obtain⟨e,cells⟩:=x
    refine zN ?_
    rw[ha.off]
    simp only[cellAtBytes_swap]
    have ha:=ha.mono (hl.trans l2)
    show SRel _ _ _ _ (match cellAtBytes P P.depth e (cells / P.cellsOf e) _ n with|some off=>_|none=>_) (match cellAtBytes P P.depth e (cells / P.cellsOf e) _ n with|some off=>_|none=>_)
    cases cellAtBytes P P.depth e (cells / P.cellsOf e) _ n with
    | none=>exact zp
    | some off=>exact zd (VRN.ptr ⟨ha.block,rfl,ha.spot⟩)
theorem Qr (ts:Array TypeId) (t:TypeId) {v v' u u':Value} (hv:VRel B v v') (hu:VRel B u u'):SRel P (swap P fs) VR B (Builtin.unsafeAdd_ ts t #[v,u]) (Builtin.unsafeAdd_ ts t #[v',u']):=(JH ts t hv hu).weaken fun _ _ _ _ h=>h.1
theorem asNumber_r {a a':Addr} (h:AR B a a') (l:Bool):SRel P (swap P fs) VR B (asNumber a l) (asNumber a' l):=
 (yW (.number l h)).bind fun _ _ _ _ hr=>zd (.pointer (.some ⟨hr,rfl,rfl⟩))
theorem jf (t:TypeId) {v v' u u':Value} (hv:VRel B v v') (hu:VRel B u u') (hnp:v≠.tuple #[]):SRel P (swap P fs) VR B (movedNumber t v u) (movedNumber t v' u'):=by
 unfold movedNumber
 refine zm fun d _=>ite_r (fun _=>qb) fun _=>?_
 have cv:=hv.case
 cases cv<;>first|exact Qr _ _ hv hu|exact (hnp rfl).elim|skip
 rename_i a a' ha
 refine (qq ha).bind fun C x x' hl hx=>?_
 obtain⟨x,l⟩:=x
 obtain⟨x',l'⟩:=x'
 obtain⟨hx,e⟩:=hx
 simp only at hx e
 subst e
 refine (JH _ _ (.pointer (.some hx)) (hu.mono hl)).bind fun D y y' l2 hy=>?_
 obtain⟨hy,ny⟩:=hy
 have cy:=hy.case
 cases cy<;>first|exact zd hy|exact asNumber_r (by assumption) _|exact (ny rfl).elim
theorem Qx (t:TypeId) {v v' u u':Value} (hv:VRel B v v') (hu:VRel B u u') (hnp:v≠.tuple #[]):SRel P (swap P fs) VR B (movedPointer t v u) (movedPointer t v' u'):=by
 unfold movedPointer
 have cv:=hv.case
 cases cv<;>first|exact Qr _ _ hv hu|exact (hnp rfl).elim|skip
 rename_i a a' ha
 refine (zaD ha.block).bind fun C x x' hl hx=>?_
 rw[show x'.isSome=x.isSome by cases hx<;>rfl]
 exact ite_r (fun _=>qb) fun _=>Qr _ _ (hv.mono hl) (hu.mono hl)
theorem YG (hB:Based P B) {a a' b b':Addr} (h:AR B a a') (k:AR B b b'):SRel P (swap P fs) (Same _) B (Op.twoPlaces a b) (Op.twoPlaces a' b'):=by
 unfold Op.twoPlaces
 refine zN ?_
 have e1:(a'.block != b'.block)=(a.block != b.block):=by simp only[bne,h.beqBlock k]
 have e2:decide (a'.block≥(swap P fs).globals.size)=decide (a.block≥P.globals.size):=by
  have:=hB.lt h.block
  exact decide_eq_decide.2 ⟨fun x=>Nat.le_of_not_lt fun y=>absurd (this.2 y) (Nat.not_lt.2 x),fun x=>Nat.le_of_not_lt fun y=>absurd (this.1 y) (Nat.not_lt.2 x)⟩
 rw[e1,e2]
 refine ite_r (fun _=>qb) fun _=>?_
 exact zb (Zg h) fun C x hl=>zb (Zg (k.mono hl)) fun _ _ _=>zd rfl
theorem addrSub_r (hB:Based P B) (ik:IntKind) {a a' b b':Addr} (h:AR B a a') (k:AR B b b'):SRel P (swap P fs) VR B (Op.addrSub ik a b) (Op.addrSub ik a' b'):=by
 unfold Op.addrSub
 exact zb (YG hB h k) fun C x _=>zd (.int _ _)
theorem addrCmp_r (hB:Based P B) (op:BinOp) {a a' b b':Addr} (h:AR B a a') (k:AR B b b'):SRel P (swap P fs) VR B (Op.addrCmp op a b) (Op.addrCmp op a' b'):=by
 unfold Op.addrCmp
 refine zb (YG hB h k) fun C x _=>?_
 cases op<;>first|exact zp|exact zd (.bool _)
theorem zcr (ik:IntKind) {a a':Addr} (h:AR B a a') (n:Int):SRel P (swap P fs) VR B (Op.addrMod ik a n) (Op.addrMod ik a' n):=by
 unfold Op.addrMod
 refine zb (ZS h.block) fun C s hl=>?_
 cases s with
 | none=>exact zp
 | some x =>
  refine qe fun i _=>ite_r (fun _=>qb) fun _=>?_
  exact zb (Zg (h.mono hl)) fun _ _ _=>zd (.int _ _)
theorem doomed_binOp (op:BinOp) {t:TypeId} {v u:Value} (hp:v=.tuple #[]∨u=.tuple #[]):Doomed P (binOp op t v u):=by
 have hd:=Ji (P:=P) (t:=t) hp 9999
 rcases hp with rfl|rfl
 ·cases op<;>cases u<;>first|exact .halt trivial|exact Doomed.bind hd
 ·cases op<;>cases v<;>first|exact .halt trivial|exact Doomed.bind hd|(rename_i a;cases a<;>exact .halt trivial)
set_option maxHeartbeats 1000000 in
theorem zeq (hB:Based P B) (op:BinOp) (t:TypeId) {v v' u u':Value} (hv:VRel B v v') (hu:VRel B u u'):SRel P (swap P fs) VR B (binOp op t v u) (binOp op t v' u'):=by
 have eqv:SRel P (swap P fs) VR B (do pure (.bool (← Op.equal t v u))) (do pure (.bool (← Op.equal t v' u'))):=zb (yP hB _ _ (Ren.le.refl _) hv hu) fun _ _ _=>zd (.bool _)
 have neqv:SRel P (swap P fs) VR B (do pure (.bool (!(← Op.equal t v u)))) (do pure (.bool (!(← Op.equal t v' u')))):=zb (yP hB _ _ (Ren.le.refl _) hv hu) fun _ _ _=>zd (.bool _)
 by_cases hp:v=.tuple #[]∨u=.tuple #[]
 ·exact .doomed (doomed_binOp op hp)
 have np:v≠.tuple #[]:=fun e=>hp (.inl e)
 have nq:u≠.tuple #[]:=fun e=>hp (.inr e)
 have cv:=hv.case
 have cu:=hu.case
 unfold binOp
 cases cv with
 | int k a =>
  cases cu with
  | int k' b =>
   cases op<;>first
    | exact PV.vr (shift_r hB _ _ _ _ _)
    | exact ite_r (fun _=>ze) fun _=>PV.vr (zbb _ _ _ _)
    | exact ite_r (fun _=>ze) fun _=>PV.vr (intDiv_r hB _ _ _ _)
    | exact ite_r (fun _=>ze) fun _=>PV.vr (zcb _ _ _ _)
    | exact ite_r (fun _=>ze) fun _=>PV.vr (intCmp_r _ _ _)
  | ptr h =>
   cases op<;>first|exact ze|exact zp|exact eqv|exact neqv|exact (np rfl).elim|exact (nq rfl).elim|exact jf _ hu hv nq|exact (qq h).bind fun C x x' _ hx=>zcr _ hx.1 _
  | ptrN =>
   cases op<;>first|exact ze|exact zp|exact eqv|exact neqv|exact (np rfl).elim|exact (nq rfl).elim|exact jf _ hu hv nq
  | _=>cases op<;>first|exact ze|exact zp|exact eqv|exact neqv|exact (np rfl).elim|exact (nq rfl).elim
 | float k a =>
  cases cu with
  | float k' b =>
   cases op<;>first
    | exact ite_r (fun _=>ze) fun _=>PV.vr (Yg _ _ _ _)
    | exact ite_r (fun _=>ze) fun _=>PV.vr (zbg _ _ _ _)
  | _=>cases op<;>first|exact ze|exact zp|exact eqv|exact neqv|exact (np rfl).elim|exact (nq rfl).elim
 | complex k a b =>
  cases cu with
  | poison _=>exact (nq rfl).elim
  | complex k' c d=>cases op<;>exact ite_r (fun _=>ze) fun _=>PV.vr (complexOp_r _ _ _ _ _ _)
  | _=>cases op<;>first|exact ze|exact zp|exact eqv|exact neqv|exact (np rfl).elim|exact (nq rfl).elim
 | string s =>
  cases cu with
  | poison _=>exact (nq rfl).elim
  | string s'=>cases op<;>exact PV.vr (Jn _ _ _)
  | _=>cases op<;>first|exact ze|exact zp|exact eqv|exact neqv|exact (np rfl).elim|exact (nq rfl).elim
 | ptr h =>
  cases cu with
  | int k' n =>
   cases op<;>first|exact ze|exact zp|exact eqv|exact neqv|exact (np rfl).elim|exact (nq rfl).elim|exact jf _ hv (.int _ _) np|exact (qq h).bind fun C x x' _ hx=>zcr _ hx.1 _|exact zm fun d _=>ite_r (fun _=>Qx _ hv hu np) fun _=>jf _ hv hu np
  | ptr k =>
   cases op<;>first
    | exact zp|exact eqv|exact neqv|exact (np rfl).elim|exact (nq rfl).elim
    | exact (qq h).bind fun C x x' l1 hx=>(qq (k.mono l1)).bind fun D y y' l2 hy=>addrSub_r ((hB.mono l1).mono l2) _ (hx.1.mono l2) hy.1
    | exact (qq h).bind fun C x x' l1 hx=>(qq (k.mono l1)).bind fun D y y' l2 hy=>addrCmp_r ((hB.mono l1).mono l2) _ (hx.1.mono l2) hy.1
  | _=>cases op<;>first|exact ze|exact zp|exact eqv|exact neqv|exact (np rfl).elim|exact (nq rfl).elim
 | ptrN =>
  cases cu with
  | int k' n =>
   cases op<;>first|exact ze|exact zp|exact eqv|exact neqv|exact (np rfl).elim|exact (nq rfl).elim|exact jf _ hv (.int _ _) np|exact zm fun d _=>ite_r (fun _=>Qx _ hv hu np) fun _=>jf _ hv hu np
  | _=>cases op<;>first|exact ze|exact zp|exact eqv|exact neqv|exact (np rfl).elim|exact (nq rfl).elim
 | poison _=>exact (np rfl).elim
 | _=>cases cu<;>first|exact (nq rfl).elim|(cases op<;>first|exact ze|exact zp|exact eqv|exact neqv)
end
end
section
structure CommR (B:Ren) (c c':CommCase):Prop where
 chan:VRel B c.chan c'.chan
 send:OR (VRel B) c.send c'.send
 zero:VRel B c.zero c'.zero
inductive NRel (B:Ren):Next→Next→Prop
 | value {v v'} : VRel B v v'→NRel B (.value v) (.value v')
 | skip:NRel B .skip .skip
 | enter (f) {a a'} : B.has f→VsRel B a a'→NRel B (.enter f a) (.enter f a')
 | round {l l'} (f) {a a'} (x y):B l l'→VsRel B a a'→B.ok x→B.ok y→B.okF f→NRel B (.round l f a x y) (.round l' f a' x y)
 | defer {d d'} : DR B d d'→Zh d.target→NRel B (.defer d) (.defer d')
abbrev NR:Ren→Next→Next→Prop:=fun B n n'=>NRel B n n'
inductive NRelM (m:Bool) (B:Ren):Next→Next→Prop
 | of {n n'} : NRel B n n'→NRelM m B n n'
 | recover:m=true→NRelM m B .recover .recover
abbrev NRM (m:Bool):Ren→Next→Next→Prop:=fun B n n'=>NRelM m B n n'
structure Lic where
 m:Bool
 d:Nat→Prop
 p:Prop
def Lic.loop:Lic:=⟨false,fun _=>False,False⟩
def zu (_P:Program) (L:Lic):Operand→Prop
 | .tmp t=>¬ L.d t
 | .const v=>Plain v
 | .global _=>False
 | .func _=>True
def zdB (P:Program) (L:Lic):Callee→Prop
 | .value f=>zu P L f
 | .invoke _ _=>False
 | .builtin b=>Jc b
def zcH (P:Program) (L:Lic) (c:Call):Prop:=zdB P L c.callee∧∀ x∈c.args,zu P L x
def OpOk (P:Program) (L:Lic):Op→Prop
 | .move x|.assign x|.nilCheck x|.box _ x|.load _ x|.unOp _ _ x|.makeInterface _ x|.makeChan _ x|.fieldAddr _ x _|.field _ x _|.range _ x|.next x _|.extract x _=>zu P L x
 | .typeAssert x _ _ ok=>ok=true∧zu P L x
 | .panic x=>L.p∧zu P L x
 | .pick c a b=>zu P L c∧zu P L a∧zu P L b
 | .alloc _=>True
 | .build _ ps|.buildSlice _ _ ps=>∀ x∈ps,zu P L x.2
 | .store _ a v|.makeSlice _ a v|.indexAddr _ a v|.index _ a v=>zu P L a∧zu P L v
 | .binOp op t a v _=>zu P L a∧zu P L v∧EqOk P op t
 | .lookup t a v _|.mapEntry t a v=>zu P L a∧zu P L v∧t<P.types.size
 | .convert s d x=>zaH P s d∧zu P L x
 | .makeFunc fn first captured=>(∃ f,fn=.func f)∧(∀ x∈first,zu P L x)∧∀ x∈captured,zu P L x
 | .makeMap _ r=>∀ x,r=some x→zu P L x
 | .slice _ x l h m=>zu P L x∧(∀ y,l=some y→zu P L y)∧(∀ y,h=some y→zu P L y)∧∀ y,m=some y→zu P L y
 | .mapUpdate t m k v|.insert t m k v=>zu P L m∧zu P L k∧zu P L v∧t<P.types.size
 | .entryStore _ m k v=>zu P L m∧zu P L k∧zu P L v
 | .call c=>zcH P L c∨(L.m=true∧c.callee=.builtin .recover)
 | .defer c=>L.m=true∧zcH P L c
 | .send _ _|.recv _ _ _|.go _|.ready _|.waits _|.entry _|.select _ _|.sliceToArrayPointer _ _=>False
structure RowsOk (P:Program) (fs:Array Func):Prop where
 same:∀ (f:Nat) fn,P.funcs[f]?=some fn→fn.body.isNone=false→∃ fn',fs[f]?=some fn'∧fn'.body.isNone=false∧(fn.name == "runtime.NumGoroutine")=false∧(fn'.name == "runtime.NumGoroutine")=false
 none:∀ (f:Nat) fn,P.funcs[f]?=some fn→fn.body.isNone=true→∀ a,Doomed P (callFunc f a)
section
variable {P:Program} {fs:Array Func} {B:Ren} {L:Lic}
theorem zT {s s':Sem Value} (h:SRel P (swap P fs) VR B s s'):SRel P (swap P fs) NR B (do pure (.value (← s))) (do pure (.value (← s'))):=h.bind fun _ _ _ _ h=>zd (.value h)
theorem QK {s s':Sem Unit} (h:SRel P (swap P fs) (Same Unit) B s s'):SRel P (swap P fs) NR B (do s;pure .skip) (do s';pure .skip):=zb h fun _ _ _=>zd .skip
theorem callFunc_r (K:RowsOk P fs) (hB:Based P B) (f:FuncId) {a a':Array Value} (h:VsRel B a a'):SRel P (swap P fs) NR B (callFunc f a) (callFunc f a'):=by
 cases hf:P.funcs[f]? with
 | none =>
  refine .doomed ?_
  unfold callFunc
  refine .program ?_
  show Doomed P (match P.funcs[f]? with|none=>stuck "call: no such function" | some fn=>_)
  rw[hf]
  exact .halt trivial
 | some fn =>
  cases hb:fn.body.isNone with
  | true=>exact .doomed (K.none f fn hf hb a)
  | false =>
   obtain⟨fn',hf',hb',hn,hn'⟩:=K.same f fn hf hb
   unfold callFunc
   refine zN ?_
   show SRel _ _ _ _ (match P.funcs[f]? with|none=>stuck "call: no such function" | some fn=>_) (match fs[f]? with|none=>stuck "call: no such function" | some fn=>_)
   rw[hf,hf']
   dsimp only
   rw[hn,hn',hb,hb']
   exact zd (.enter _ (hB.has f fn hf hb) h)
theorem ZE {l l':Nat} (h:B l l'):SRel P (swap P fs) (fun C x y=>LoopR C x y) B (Instr.getLoop l) (Instr.getLoop l'):=by
 unfold Instr.getLoop
 refine (qE h).bind fun C o o' _ ho=>?_
 cases ho<;>first|exact ze|exact zd (by assumption)
theorem setParams_r (ps:Array Tmp) {a a' t t':Array Value} (h:VsRel B a a') (k:VsRel B t t'):VsRel B ((ps.zip a).foldl (fun tmps (i,x)=>tmps.setIfInBounds i x) t) ((ps.zip a').foldl (fun tmps (i,x)=>tmps.setIfInBounds i x) t'):=by
 rw[← Array.foldl_toList,← Array.foldl_toList]
 simp only[Array.toList_zip]
 have hl:=h.toList
 generalize a.toList=l at hl
 generalize a'.toList=l' at hl
 generalize ps.toList=q
 clear h
 induction hl generalizing q t t' with
 | nil=>simpa using k
 | cons hx _ ih =>
  cases q with
  | nil=>simpa using k
  | cons i q =>
   simp only[List.zip_cons_cons,List.foldl_cons]
   exact ih (k.set i hx) q
theorem yield_r {l l':Nat} (h:B l l') {a a':Array Value} (ha:VsRel B a a'):SRel P (swap P fs) NR B (Instr.yield l a) (Instr.yield l' a'):=by
 unfold Instr.yield
 refine (ZE h).bind fun C x y hl hx=>?_
 obtain⟨st,pe,fn,tm,pr,as,bo,de⟩:=x
 obtain⟨st',pe',fn',tm',pr',as',bo',de'⟩:=y
 obtain⟨e1,e2,e3,e4,e5,e6,e7,e8,e9,e10,e11,e12⟩:=hx
 simp only at e1 e2 e3 e4 e5 e6 e7 e8 e9 e10 e11 e12
 subst e1 e2 e3 e5 e6 e7
 dsimp only
 rw[ha.size]
 exact ite_r (fun _=>zF) fun _=>zd (.round _ _ _ (hl _ _ h) (setParams_r _ (VsRel.mono hl ha) e4) e9 e10 e12)
theorem builtin_r (T:TypesOk P.toTables) (hB:Based P B) (b:Builtin) (hb:Jc b) (ts:Array TypeId) (t:TypeId) (cs:Array Bool) {a a':Array Value} (h:VsRel B a a'):SRel P (swap P fs) NR B (builtin b ts t cs a) (builtin b ts t cs a'):=by
 cases b<;>first|exact hb.elim|skip
 ·exact zT (append_r T hB ts t h)
 ·exact zT (cap_r ts t h)
 ·exact zT (clear_r T ts t h)
 ·exact zT (close_r hB ts t h)
 ·exact zT (copy_r ts t h)
 ·exact zT (len_r ts t h)
 ·exact zT (max_r ts t h)
 ·exact zT (min_r ts t h)
theorem invoke_r (T:TypesOk P.toTables) (K:RowsOk P fs) (hB:Based P B) {t t':Target} {a a':Array Value} (ht:TR B t t') (hk:Zh t) (h:VsRel B a a'):SRel P (swap P fs) NR B (invoke t a) (invoke t' a'):=by
 unfold invoke
 cases ht with
 | nil=>exact zG hB.handle _
 | builtin b ts t cs=>exact builtin_r T hB b hk ts t cs h
 | collected _=>exact ze
 | fn hf hc =>
  cases hf with
  | func f=>exact callFunc_r K hB f (h.append hc)
  | yield hl=>exact yield_r hl h
theorem odd_method (T:TypesOk P.toTables) (v:Value):∀ n,Doomed P (method n 0 v "~")
 | 0=>by
  unfold method
  exact Doomed.halt (h:=.unsupported (.resourceLimit _)) trivial
 | n+1=>by
  unfold method typeInfo
  refine .program ?_
  dsimp only
  cases h:P.info? 0 with
  | none =>
   simp only[bind,Sem.bind,pure,h]
   exact Doomed.halt (h:=.stuck "no such type") trivial
  | some i =>
   have:=T.odd i h
   simp only[bind,Sem.bind,pure,h,this]
   exact Doomed.halt (h:=.stuck "invoke: the dynamic type lacks the method") trivial
theorem odd_nil (T:TypesOk P.toTables) (v:Value):∀ n,(∀ r,nilAhead n 0 v "~" = .pure r→r≠some false)∧(n=0∨Doomed P (nilAhead n 0 v "~"))
 | 0=>⟨fun r h=>by cases h;simp,.inl rfl⟩
 | n+1=>by
  have hd:Doomed P (nilAhead (n+1) 0 v "~"):=by
   unfold nilAhead typeInfo
   refine .program ?_
   dsimp only
   cases h:P.info? 0 with
   | none =>
    simp only[bind,Sem.bind,pure,h]
    exact Doomed.halt (h:=.stuck "no such type") trivial
   | some i =>
    have:=T.odd i h
    simp only[bind,Sem.bind,pure,h,this]
    exact Doomed.halt (h:=.stuck "invoke: the dynamic type lacks the method") trivial
  refine⟨fun r h=>?_,.inr hd⟩
  rw[h] at hd
  cases hd
theorem Yy (T:TypesOk P.toTables) (K:RowsOk P fs) (hB:Based P B) {d d':Deferred} (h:DR B d d'):SRel P (swap P fs) NR B (invoke d.target d.args) (invoke d'.target d'.args):=by
 cases h with
 | reg ht h hk=>exact invoke_r T K hB ht hk h
 | odd n c h1 h2 _ =>
  rw[h1]
  refine .doomed ?_
  unfold invoke
  simp only[h2]
  unfold callMethod
  refine .program ?_
  exact (odd_method T _ _).bind
theorem zcE {ρ ρ':Operand→Value} (hρ : ∀ x,zu P L x→VRel B (ρ x) (ρ' x)) {xs:Array Operand} (h:∀ x∈xs,zu P L x):VsRel B (xs.map ρ) (xs.map ρ'):=
 Rows.of (by simp) fun i h1 h2=>by
  simp only[Array.getElem_map]
  exact hρ _ (h _ (Array.getElem_mem _))
theorem zbU {v v':Value} (h:VRel B v v') {a a':Array Value} (ha:VsRel B a a'):SRel P (swap P fs) (fun C d d'=>DR C d d'∧Zh d.target) B (Deferred.ofValue v a) (Deferred.ofValue v' a'):=by
 unfold Deferred.ofValue
 have cv:=h.case
 cases cv<;>first|exact ze|skip
 ·rename_i hf h1 h2
  exact zd ⟨.reg (.fn hf h2) (h1.append ha) trivial,trivial⟩
 ·exact zd ⟨.reg .nil ha trivial,trivial⟩
 ·exact zd ⟨.odd _ _ rfl (by simp[Array.getElem?_append]) rfl,trivial⟩
theorem zbR {ρ ρ':Operand→Value} (hρ : ∀ x,zu P L x→VRel B (ρ x) (ρ' x)) (c:Call) (hc:zcH P L c) (t:TypeId):SRel P (swap P fs) (fun C d d'=>DR C d d'∧Zh d.target) B (resolve ρ c t) (resolve ρ' c t):=by
 obtain⟨callee,args,ats⟩:=c
 obtain⟨h1,h2⟩:=hc
 unfold resolve
 cases callee with
 | builtin b=>exact zd ⟨.reg (.builtin _ _ _ _) (zcE hρ h2) h1,h1⟩
 | invoke r n=>exact h1.elim
 | value f=>exact zbU (hρ f h1) (zcE hρ h2)
theorem zdW {ρ ρ':Operand→Value} (hρ : ∀ x,zu P L x→VRel B (ρ x) (ρ' x)) {ps:Array (Nat×Operand)} (h:∀ x∈ps,zu P L x.2):zby B (ps.map fun (i,x)=>(i,ρ x)).toList (ps.map fun (i,x)=>(i,ρ' x)).toList:=by
 refine Rows.toList (Rows.of (by simp) fun i h1 h2=>?_)
 simp only[Array.getElem_map,true_and]
 exact hρ _ (h _ (Array.getElem_mem _))
theorem opt_r {ρ ρ':Operand→Value} (hρ : ∀ x,zu P L x→VRel B (ρ x) (ρ' x)) {o:Option Operand} (h:∀ y,o=some y→zu P L y):OR (VRel B) (o.map ρ) (o.map ρ'):=by
 cases o with
 | none=>exact .none
 | some x=>exact .some (hρ x (h x rfl))
end
end
section
section
variable {P:Program} {fs:Array Func} {B:Ren} {L:Lic}
theorem binEq_r (hB:Based P B) (op:BinOp) (t:TypeId) (ho:EqOk P op t) (x y:Operand) {v v' u u':Value} (hv:VRel B v v') (hu:VRel B u u'):SRel P (swap P fs) VR B (do eqGuard op t x y v u;binOp op t v u) (do eqGuard op t x y v' u';binOp op t v' u'):=by
 by_cases hop:op=.eql∨op=.neq
 ·by_cases hp:v=.tuple #[]∨u=.tuple #[]
  ·exact .doomed (doomed_binEq hop x y hp)
  ·exact zb (eqGuard_r op t ho x y hv hu (fun e=>hp (.inl e)) fun e=>hp (.inr e)) fun C _ hl=>zeq (hB.mono hl) op t (hv.mono hl) (hu.mono hl)
 ·have e:∀ a b,eqGuard op t x y a b=pure ():=fun a b=>by
   unfold eqGuard
   cases op<;>first|rfl|exact (hop (.inl rfl)).elim|exact (hop (.inr rfl)).elim
  rw[e,e]
  exact zeq hB op t hv hu
theorem execOp_r (T:TypesOk P.toTables) (K:RowsOk P fs) (hB:Based P B) {ρ ρ':Operand→Value} (hρ : ∀ x,zu P L x→VRel B (ρ x) (ρ' x)) (hp:L.p→B.out) (o:Oper) (ho:OpOk P L o.op):SRel P (swap P fs) (NRM L.m) B (execOp ρ o) (execOp ρ' o):=by
 have nm:∀ {s s':Sem Next},SRel P (swap P fs) NR B s s'→SRel P (swap P fs) (NRM L.m) B s s':=fun h=>h.weaken fun _ _ _ _ h=>.of h
 obtain⟨dst,op,ty,pos,after,guard⟩:=o
 unfold execOp
 by_cases hrc:∃ c,op=.call c∧(L.m=true∧c.callee=.builtin .recover)
 ·obtain⟨⟨callee,args,ats⟩,rfl,hm,hc⟩:=hrc
  simp only at hc
  subst hc
  exact zd (.recover hm)
 refine nm ?_
 cases op with
 | move x=>exact zd (.value (hρ _ ho))
 | assign x=>exact zd (.value (hρ _ ho))
 | pick c a b =>
  refine zb (Yk (hρ c ho.1)) fun C t hl=>zd (.value ?_)
  split
  ·exact (hρ a ho.2.1).mono hl
  ·exact (hρ b ho.2.2).mono hl
 | alloc e=>exact zT (alloc_r T e)
 | box e x=>exact zT (box_r e (hρ x ho))
 | build t ps=>exact zT (build_r T t (zdW hρ ho))
 | buildSlice t n ps=>exact zT (buildSlice_r T t n (zdW hρ ho))
 | load t a=>exact zT (loadAt_r t (hρ a ho))
 | store t a x=>exact QK (storeAt_r t (hρ a ho.1) (hρ x ho.2))
 | ready g=>exact ho.elim
 | waits g=>exact ho.elim
 | nilCheck x =>
  have hv:=hρ x ho
  have cv:=hv.case
  dsimp only
  generalize ρ x=v at hv cv
  generalize ρ' x=v' at hv cv
  cases cv<;>first
   | exact zG hB.handle _
   | exact zd (.value hv)
   | skip
  ·rename_i hf _ _
   cases hf<;>exact zd (.value hv)
  ·rename_i hp
   cases v' with
   | pointer a =>
    cases a with
    | none=>exact (hp.ptr rfl).elim
    | some a=>exact zd (.value hv)
   | nilIface=>exact (hp.iface rfl).elim
   | nilFunc=>exact (hp.func rfl).elim
   | func fn f c =>
    cases fn with
    | method n=>exact (hp.meth n f c rfl).elim
    | _=>exact zd (.value hv)
   | _=>exact zd (.value hv)
  ·refine .doomed ?_
   show Doomed P (Sem.program fun p=>Sem.bind (nilAhead (p.types.size+Made.depth) 0 (.tuple #[]) "~") _)
   refine .program ?_
   rcases (odd_nil T (.tuple #[]) (P.types.size+Made.depth)).2 with h0|hd
   ·rw[h0]
    exact Doomed.halt (h:=.unsupported _) trivial
   ·exact hd.bind
 | binOp op t x y yt=>exact zT (binEq_r hB op t ho.2.2 x y (hρ x ho.1) (hρ y ho.2.1))
 | unOp op t x=>exact zT (unary_r op (hρ x ho))
 | convert s d x=>exact zT (convert_r ho.1 (hρ x ho.2))
 | sliceToArrayPointer a x=>exact ho.elim
 | makeInterface t x=>exact zT (makeInterface_r t (hρ x ho))
 | makeFunc fn f c =>
  obtain⟨⟨k,rfl⟩,h1,h2⟩:=ho
  exact zT (makeFunc_r (.func k) (zcE hρ h1) (zcE hρ h2))
 | makeMap t r=>exact zT (makeMap_r t (opt_r hρ ho))
 | makeChan t s=>exact zT (makeChan_r hB t (hρ s ho))
 | makeSlice t l c=>exact zT (makeSlice_r T hB t (hρ l ho.1) (hρ c ho.2))
 | slice t x l h m=>exact zT (sliceAt_r hB t (hρ x ho.1) (opt_r hρ ho.2.1) (opt_r hρ ho.2.2.1) (opt_r hρ ho.2.2.2))
 | fieldAddr t x k=>exact zT (fieldAt_r t (hρ x ho) k)
 | field t x k=>exact zT (field_r t (hρ x ho) k)
 | indexAddr t x i=>exact zT (indexAt_r hB.handle t (hρ x ho.1) (hρ i ho.2))
 | index t x i=>exact zT (index_r hB t (hρ x ho.1) (hρ i ho.2))
 | lookup t x i ok=>exact zT (lookup_r T hB t ho.2.2 (hρ x ho.1) (hρ i ho.2.1) ok)
 | mapUpdate t m k x=>exact QK (YR hB t ho.2.2.2 (hρ m ho.1) (hρ k ho.2.1) (hρ x ho.2.2.1))
 | insert t m k x=>exact QK (YR hB t ho.2.2.2 (hρ m ho.1) (hρ k ho.2.1) (hρ x ho.2.2.1))
 | mapEntry t m k=>exact zT (mapEntry_r T hB t ho.2.2 (hρ m ho.1) (hρ k ho.2.1))
 | entryStore t m k x=>exact QK (entryStore_r t (hρ m ho.1) (hρ k ho.2.1) (hρ x ho.2.2))
 | range t x=>exact zT (range_r t (hρ x ho))
 | next x s=>exact zT (next_r ty s (hρ x ho))
 | entry x=>exact ho.elim
 | typeAssert x xt as ok =>
  obtain⟨rfl,ho⟩:=ho
  exact zT (typeAssert_r T hB (hρ x ho) xt as)
 | extract x i=>exact zT (extract_r (hρ x ho) i)
 | call c=>exact (zbR hρ c (ho.resolve_right fun h=>hrc ⟨c,rfl,h⟩) ty).bind fun C d d' hl hd=>Yy T K (hB.mono hl) hd.1
 | go c=>exact ho.elim
 | defer c=>exact (zbR hρ c ho.2 ty).bind fun C d d' hl hd=>zd (.defer hd.1 hd.2)
 | panic x=>exact zT (panic_r (hp ho.1) hB (hρ x ho.2))
 | send c x=>exact ho.elim
 | recv t c ok=>exact ho.elim
 | select cs b=>exact ho.elim
end
end
section
def OpsOk (P:Program) (L:Lic) (ops:Array Oper):Prop:=∀ (i:Nat) o,ops[i]?=some o→OpOk P L o.op∧∀ t,o.dst=some t→¬ L.d t
def qs (P:Program) (L:Lic):Code→Prop
 | .region _ ops _=>OpsOk P L ops
 | .seq a b=>qs P L a∧qs P L b
 | .cond c a b=>zu P L c∧qs P L a∧qs P L b
 | .block _ c|.loop c|.scope c=>qs P L c
 | .rangeFunc f _ a b=>zu P L f∧qs P L a∧qs P L b∧L=Lic.loop
 | _=>True
inductive ItemR (P:Program) (L:Lic) (B:Ren):Item→Item→Prop
 | code {c} : qs P L c→ItemR P L B (.code c) (.code c)
 | inBlock (i):ItemR P L B (.inBlock i) (.inBlock i)
 | inLoop {c} : qs P L c→ItemR P L B (.inLoop c) (.inLoop c)
 | inScope {c} : qs P L c→ItemR P L B (.inScope c) (.inScope c)
 | inRegion {ops} (l):OpsOk P L ops→ItemR P L B (.inRegion ops l) (.inRegion ops l)
 | inRangeFunc {l l'} : B l l'→L=Lic.loop→ItemR P L B (.inRangeFunc l) (.inRangeFunc l')
 | endRangeFunc {l l'} : B l l'→L=Lic.loop→ItemR P L B (.endRangeFunc l) (.endRangeFunc l')
 | beginRound:ItemR P L B .beginRound .beginRound
structure PanicR (B:Ren) (e e':PanicEntry):Prop where
 v:VRel B e.v e'.v
 recovered:e'.recovered=e.recovered
 goexit:e'.goexit=e.goexit
inductive ModeR (B:Ren):FrameMode→FrameMode→Prop
 | run:ModeR B .run .run
 | returning:ModeR B .returning .returning
 | panicking {c c'} : LR (PanicR B) c c'→ModeR B (.panicking c) (.panicking c')
structure DefR (B:Ren) (d d':Deferred):Prop where
 rel:DR B d d'
 ok:Zh d.target
structure TmpsR (d:Nat→Prop) (B:Ren) (a a':Array Value):Prop where
 size:a'.size=a.size
 get:∀ (i:Nat) x y,¬ d i→a[i]?=some x→a'[i]?=some y→VRel B x y
structure FrameR (P:Program) (Lf:FuncId→Lic) (B:Ren) (f f':Frame):Prop where
 fn:f'.fn=f.fn
 tmps:TmpsR (Lf f.fn).d B f.tmps f'.tmps
 todo:LR (ItemR P (Lf f.fn) B) f.todo f'.todo
 defers:LR (DefR B) f.defers f'.defers
 mode:ModeR B f.mode f'.mode
 roundOf:OR B.rel f.roundOf f'.roundOf
 calm:f.roundOf≠none→Lf f.fn=Lic.loop
section
variable {P:Program} {fs:Array Func} {B C:Ren} {L:Lic} {Lf:FuncId→Lic} {d:Nat→Prop}
theorem TmpsR.of {a a':Array Value} (h:VsRel B a a'):TmpsR d B a a':=⟨h.size,fun i x y _ h1 h2=>h.2 i x y h1 h2⟩
theorem TmpsR.all {a a':Array Value} (h:TmpsR d B a a') (hd:∀ i,¬ d i):VsRel B a a':=⟨h.size,fun i x y h1 h2=>h.get i x y (hd i) h1 h2⟩
theorem TmpsR.mono (h:B.le C) {a a':Array Value} (k:TmpsR d B a a'):TmpsR d C a a':=⟨k.size,fun i x y hi h1 h2=>(k.get i x y hi h1 h2).mono h⟩
theorem TmpsR.getO {a a':Array Value} (h:TmpsR d B a a') (i:Nat) (hi:¬ d i):OR (VRel B) a[i]? a'[i]?:=by
 cases hx:a[i]? with
 | some x =>
  have hlt:=(Array.getElem?_eq_some_iff.1 hx).1
  have hlt':i<a'.size:=by rw[h.size];exact hlt
  have hy:a'[i]?=some a'[i]:=by simp[hlt']
  rw[hy]
  exact .some (h.get i x _ hi hx hy)
 | none =>
  have hge:a.size≤i:=by simpa using hx
  rw[Array.getElem?_eq_none (by rw[h.size];exact hge)]
  exact .none
theorem TmpsR.set {a a':Array Value} (h:TmpsR d B a a') (j:Nat) {v v':Value} (hv:VRel B v v'):TmpsR d B (a.setIfInBounds j v) (a'.setIfInBounds j v'):=by
 refine⟨by simp[h.size],fun i x y hi h1 h2=>?_⟩
 rw[Array.getElem?_setIfInBounds] at h1 h2
 have hs:=h.size
 split at h1
 ·rename_i e
  rw[if_pos e] at h2
  split at h1
  ·rw[if_pos (by omega)] at h2;cases h1;cases h2;exact hv
  ·cases h1
 ·rename_i e
  rw[if_neg e] at h2
  exact h.get _ _ _ hi h1 h2
theorem ItemR.mono (h:B.le C) {x x'} (k:ItemR P L B x x'):ItemR P L C x x':=by
 cases k with
 | code h=>exact .code h
 | inBlock i=>exact .inBlock i
 | inLoop h=>exact .inLoop h
 | inScope h=>exact .inScope h
 | inRegion l h=>exact .inRegion l h
 | inRangeFunc x e=>exact .inRangeFunc (h _ _ x) e
 | endRangeFunc x e=>exact .endRangeFunc (h _ _ x) e
 | beginRound=>exact .beginRound
theorem PanicR.mono (h:B.le C) {x x'} (k:PanicR B x x'):PanicR C x x':=⟨k.v.mono h,k.recovered,k.goexit⟩
theorem ModeR.mono (h:B.le C) {x x'} (k:ModeR B x x'):ModeR C x x':=by
 cases k with
 | run=>exact .run
 | returning=>exact .returning
 | panicking x=>exact .panicking (x.mono fun _ _=>PanicR.mono h)
theorem DefR.mono (h:B.le C) {x x'} (k:DefR B x x'):DefR C x x':=⟨k.rel.mono h,k.ok⟩
theorem FrameR.mono (h:B.le C) {x x'} (k:FrameR P Lf B x x'):FrameR P Lf C x x':=
 ⟨k.fn,k.tmps.mono h,k.todo.mono fun _ _=>ItemR.mono h,k.defers.mono fun _ _=>DefR.mono h,k.mode.mono h,k.roundOf.mono h.sub,k.calm⟩
theorem TmpsR.getD {a a':Array Value} (h:TmpsR d B a a') (i:Nat) (hi:¬ d i) {v v':Value} (hv:VRel B v v'):VRel B (a.getD i v) (a'.getD i v'):=by
 simp only[Array.getD_eq_getD_getElem?]
 have:=h.getO i hi
 generalize a[i]?=x at this
 generalize a'[i]?=y at this
 cases this with
 | none=>exact hv
 | some h=>exact h
theorem FrameR.eval {f f':Frame} (h:FrameR P Lf B f f') (_hB:Based P B) {x:Operand} (hx:zu P (Lf f.fn) x):VRel B (f.eval x) (f'.eval x):=by
 cases x with
 | tmp t=>exact h.tmps.getD t hx (VRel.undef B)
 | const v=>exact hx B
 | global g=>exact hx.elim
 | func f=>exact .func (.func f) rfl (fun i x y h=>by simp at h) rfl (fun i x y h=>by simp at h)
theorem yielded_r {ops:Array Oper} (ho:OpsOk P L ops) {a a':Array Value} (h:TmpsR L.d B a a') (j:Nat):yielded ops a' j=yielded ops a j:=by
 unfold yielded
 cases e:ops[j]? with
 | none=>rfl
 | some o =>
  simp only[Option.bind_some]
  cases e2:o.dst with
  | none=>rfl
  | some t =>
   simp only[Option.bind_some]
   have:=h.getO t ((ho j o e).2 t e2)
   generalize a[t]?=x at this
   generalize a'[t]?=y at this
   cases this with
   | none=>rfl
   | some h =>
    rename_i v v'
    cases h<;>first|rfl|skip
    rename_i hp
    cases v'<;>first|rfl|exact (hp.bool _ rfl).elim
theorem exitTo_r (id:Nat) {k k':List Item} (h:LR (ItemR P L B) k k'):OR (LR (ItemR P L B)) (exitTo id k) (exitTo id k'):=by
 induction h with
 | nil=>exact .none
 | cons hx h ih =>
  cases hx<;>first|exact ih|skip
  rename_i i
  unfold exitTo
  split
  ·exact .some h
  ·exact ih
theorem Qf:∀ (c:Code) (l:Nat) (r:Code),qs P L c→findLabel c l=some r→qs P L r
 | .seq a b,l,r,h,e=>by
  unfold findLabel at e
  cases ha:findLabel a l with
  | some x =>
   rw[ha] at e
   cases e
   exact⟨Qf a l x h.1 ha,h.2⟩
  | none =>
   rw[ha] at e
   exact Qf b l r h.2 e
 | .label l',l,r,h,e=>by
  unfold findLabel at e
  split at e
  ·cases e;trivial
  ·cases e
 | .skip,l,r,h,e=>by unfold findLabel at e;cases e
 | .region _ _ _,l,r,h,e=>by unfold findLabel at e;cases e
 | .cond _ _ _,l,r,h,e=>by unfold findLabel at e;cases e
 | .block _ _,l,r,h,e=>by unfold findLabel at e;cases e
 | .loop _,l,r,h,e=>by unfold findLabel at e;cases e
 | .rangeFunc _ _ _ _,l,r,h,e=>by unfold findLabel at e;cases e
 | .exit _,l,r,h,e=>by unfold findLabel at e;cases e
 | .scope _,l,r,h,e=>by unfold findLabel at e;cases e
 | .goto _,l,r,h,e=>by unfold findLabel at e;cases e
 | .ret,l,r,h,e=>by unfold findLabel at e;cases e
 | .refuse _,l,r,h,e=>by unfold findLabel at e;cases e
theorem gotoIn_r (l:Nat) {k k':List Item} (h:LR (ItemR P L B) k k'):OR (LR (ItemR P L B)) (gotoIn l k) (gotoIn l k'):=by
 induction h with
 | nil=>exact .none
 | cons hx h ih =>
  cases hx<;>first|exact ih|skip
  rename_i c hc
  unfold gotoIn
  cases hl:findLabel c l with
  | none=>exact ih
  | some r=>exact .some (.cons (.code (Qf c l r hc hl)) (.cons (.inScope hc) h))
theorem FrameR.finish {f f':Frame} (h:FrameR P Lf B f f') {v v':Value} (hv:VRel B v v'):FrameR P Lf B (f.finish v) (f'.finish v'):=by
 obtain⟨fn,tm,td,df,md,kd,ro⟩:=f
 obtain⟨fn',tm',td',df',md',kd',ro'⟩:=f'
 obtain⟨e1,e2,e3,e4,e5,e7,e8⟩:=h
 simp only at e1 e2 e3 e4 e5 e7 e8
 subst e1
 have same:∀ t t',LR (ItemR P (Lf fn') B) t t'→FrameR P Lf B ⟨fn',tm,t,df,md,kd,ro⟩ ⟨fn',tm',t',df',md',kd',ro'⟩:=fun t t' ht=>⟨rfl,e2,ht,e4,e5,e7,e8⟩
 cases e3 with
 | nil=>exact same _ _ .nil
 | cons hx ht =>
  cases hx with
  | inRegion l ho =>
   rename_i ops
   cases l with
   | nil=>exact same _ _ (.cons (.inRegion _ ho) ht)
   | cons i rest =>
    refine⟨rfl,?_,.cons (.inRegion _ ho) ht,e4,e5,e7,e8⟩
    show TmpsR (Lf fn').d B (match (ops[i]?).bind (·.dst) with|some d=>tm.setIfInBounds d v|none=>tm) (match (ops[i]?).bind (·.dst) with|some d=>tm'.setIfInBounds d v'|none=>tm')
    cases (ops[i]?).bind (·.dst) with
    | none=>exact e2
    | some d=>exact e2.set d hv
  | inRangeFunc hl e=>exact same _ _ (.cons (.endRangeFunc hl e) ht)
  | beginRound=>exact same _ _ ht
  | code hc=>exact same _ _ (.cons (.code hc) ht)
  | inBlock i=>exact same _ _ (.cons (.inBlock i) ht)
  | inLoop hc=>exact same _ _ (.cons (.inLoop hc) ht)
  | inScope hc=>exact same _ _ (.cons (.inScope hc) ht)
  | endRangeFunc hl e=>exact same _ _ (.cons (.endRangeFunc hl e) ht)
theorem FrameR.raise {f f':Frame} (h:FrameR P Lf B f f') {v v':List PanicEntry} (hv:LR (PanicR B) v v'):FrameR P Lf B (f.raise v) (f'.raise v'):=by
 obtain⟨fn,tm,td,df,md,kd,ro⟩:=f
 obtain⟨fn',tm',td',df',md',kd',ro'⟩:=f'
 obtain⟨e1,e2,e3,e4,e5,e7,e8⟩:=h
 simp only at e1 e2 e3 e4 e5 e7 e8
 unfold Frame.raise
 cases e5 with
 | run=>exact⟨e1,e2,e3,e4,.panicking hv,e7,e8⟩
 | returning=>exact⟨e1,e2,e3,e4,.panicking hv,e7,e8⟩
 | panicking hc=>exact⟨e1,e2,e3,e4,.panicking (hv.append hc),e7,e8⟩
end
end
end Go.Par
