/- Operators, run beside themselves. Operators on values and the builtins, run beside themselves. append, copy, clear, delete, close, conversions, run beside themselves. copy, clear, .. -/
import Derived.Test.YtlgiofglcgbjgaaM03
namespace Go.Par
open Go
section
abbrev PV:Ren→Value→Value→Prop:=fun _ v v'=>v'=v∧Plain v
theorem ZV (b:Bool):Plain (.bool b):=fun _=>.bool b
theorem QT (k:IntKind) (n:Int):Plain (.int k n):=fun _=>.int k n
theorem jm (k:FloatKind) (n:Nat):Plain (.float k n):=fun _=>.float k n
theorem Jg (k:FloatKind) (n m:Nat):Plain (.complex k n m):=fun _=>.complex k n m
theorem plain_string (s:ByteArray):Plain (.string s):=fun _=>.string s
section
variable {P:Program} {fs:Array Func} {B:Ren}
theorem PV.vr {s s':Sem Value} (h:SRel P (swap P fs) PV B s s'):SRel P (swap P fs) VR B s s':=h.weaken fun C v v' _ x=>by rw[x.1];exact x.2 C
theorem pv_r {v:Value} (h:Plain v):SRel P (swap P fs) PV B (pure v) (pure v):=zd ⟨rfl,h⟩
theorem zbb (op:BinOp) (k:IntKind) (x y:Int):SRel P (swap P fs) PV B (Op.intArith op k x y) (Op.intArith op k x y):=by
 cases op<;>first|exact ze|exact pv_r (QT _ _)
theorem zcb (op:BinOp) (k:IntKind) (x y:Int):SRel P (swap P fs) PV B (Op.intBits op k x y) (Op.intBits op k x y):=by
 cases op<;>first|exact ze|exact pv_r (QT _ _)
theorem intCmp_r (op:BinOp) (x y:Int):SRel P (swap P fs) PV B (Op.intCmp op x y) (Op.intCmp op x y):=by
 cases op<;>first|exact ze|exact pv_r (ZV _)
theorem intDiv_r (hB:Based P B) (op:BinOp) (k:IntKind) (x y:Int):SRel P (swap P fs) PV B (Op.intDiv op k x y) (Op.intDiv op k x y):=by
 unfold Op.intDiv
 refine ite_r (fun _=>zG hB.handle _) fun _=>?_
 cases op<;>first|exact ze|exact pv_r (QT _ _)
theorem shift_r (hB:Based P B) (op:BinOp) (k yk:IntKind) (x y:Int):SRel P (swap P fs) PV B (Op.shift op k x yk y) (Op.shift op k x yk y):=by
 unfold Op.shift
 refine ite_r (fun _=>zG hB.handle _) fun _=>?_
 cases op<;>first|exact ze|exact pv_r (QT _ _)
theorem Jn (op:BinOp) (x y:ByteArray):SRel P (swap P fs) PV B (Op.stringOp op x y) (Op.stringOp op x y):=by
 cases op<;>unfold Op.stringOp<;>first|exact ze|exact pv_r (ZV _)|exact ite_r (fun _=>zp) fun _=>pv_r (plain_string _)
theorem zbg (op:BinOp) (k:FloatKind) (x y:Nat):SRel P (swap P fs) PV B (Op.floatCmp op k x y) (Op.floatCmp op k x y):=by
 cases op<;>first|exact ze|exact pv_r (ZV _)
theorem optFloat_r (k:FloatKind) (x y:Nat) (r:Option Nat):SRel P (swap P fs) PV B (match r with|some r=>pure (.float k r)|none=>do pure (.float k (← choose (.nanBits k x y)))) (match r with|some r=>pure (.float k r)|none=>do pure (.float k (← choose (.nanBits k x y)))):=by
 cases r with
 | some r=>exact pv_r (jm _ _)
 | none=>exact zb (qN _) fun _ _ _=>pv_r (jm _ _)
theorem Yg (op:BinOp) (k:FloatKind) (x y:Nat):SRel P (swap P fs) PV B (Op.floatArith op k x y) (Op.floatArith op k x y):=by
 unfold Op.floatArith
 cases op<;>first|exact zF|exact optFloat_r k x y _
theorem jW (s:FloatKind) (b:Nat) (d:FloatKind):SRel P (swap P fs) PV B (Conv.floatToFloat s b d) (Conv.floatToFloat s b d):=by
 unfold Conv.floatToFloat
 refine ite_r (fun _=>pv_r (jm _ _)) fun _=>?_
 cases s.decode b with
 | nan=>exact zb (qN _) fun _ _ _=>pv_r (jm _ _)
 | infinity s=>exact pv_r (jm _ _)
 | number s m e=>exact ite_r (fun _=>zb (qN _) fun _ _ _=>pv_r (jm _ _)) fun _=>pv_r (jm _ _)
theorem zdN {s:Sem Value} {k:String} (h:SRel P (swap P fs) PV B s s):SRel P (swap P fs) (Same Nat) B (s >>= fun v=>match v with|.float _ r=>pure r|_=>stuck k) (s >>= fun v=>match v with|.float _ r=>pure r|_=>stuck k):=
 h.bind fun C v v' _ x=>by
  obtain⟨rfl,_⟩:=x
  cases v'<;>first|exact ze|exact zd rfl
theorem zE (op:BinOp) (k:FloatKind) (x y:Nat):SRel P (swap P fs) (Same Nat) B (Op.Complex.arith op k x y) (Op.Complex.arith op k x y):=zdN (Yg op k x y)
theorem zbr (op:BinOp) (k:FloatKind) (x y:Nat):SRel P (swap P fs) (Same Bool) B (Op.Complex.cmp op k x y) (Op.Complex.cmp op k x y):=
 (zbg op k x y).bind fun C v v' _ x=>by
  obtain⟨rfl,h⟩:=x
  exact Yk (h C)
theorem yv (s:FloatKind) (x:Nat) (d:FloatKind):SRel P (swap P fs) (Same Nat) B (Op.Complex.conv s x d) (Op.Complex.conv s x d):=by
 unfold Op.Complex.conv
 exact ite_r (fun _=>zd rfl) fun _=>zdN (jW s x d)
theorem product_r (a b c d:Nat):SRel P (swap P fs) (Same _) B (Op.Complex.product a b c d) (Op.Complex.product a b c d):=by
 unfold Op.Complex.product
 exact zb (zE ..) fun _ _ _=>zb (zE ..) fun _ _ _=>zb (zE ..) fun _ _ _=>zb (zE ..) fun _ _ _=>zb (zE ..) fun _ _ _=>zb (zE ..) fun _ _ _=>zd rfl
theorem YV (s a b c d:Nat):SRel P (swap P fs) (Same _) B (Op.Complex.corrected s a b c d) (Op.Complex.corrected s a b c d):=by
 unfold Op.Complex.corrected
 exact zb (zE ..) fun _ _ _=>zb (zE ..) fun _ _ _=>zb (zE ..) fun _ _ _=>zb (zE ..) fun _ _ _=>zb (zE ..) fun _ _ _=>zb (zE ..) fun _ _ _=>zb (zE ..) fun _ _ _=>zb (zE ..) fun _ _ _=>zd rfl
theorem quotient_r (a b c d:Nat):SRel P (swap P fs) (Same _) B (Op.Complex.quotient a b c d) (Op.Complex.quotient a b c d):=by
 unfold Op.Complex.quotient
 have fin:∀ (C:Ren) (e f:Nat),SRel P (swap P fs) (Same _) C
   (do
    let zero:=(← Op.Complex.cmp .eql .f64 c 0)&&(← Op.Complex.cmp .eql .f64 d 0)
    if !(Op.Complex.isNaN e&&Op.Complex.isNaN f) then pure (e,f)
    else if zero&&(!Op.Complex.isNaN a||!Op.Complex.isNaN b) then
     pure (← Op.Complex.mul (Op.Complex.copysign Op.Complex.inf c) a,← Op.Complex.mul (Op.Complex.copysign Op.Complex.inf c) b)
    else if (Op.Complex.isInf a||Op.Complex.isInf b)&&Op.Complex.isFinite c&&Op.Complex.isFinite d then
     Op.Complex.corrected Op.Complex.inf (Op.Complex.inf2one a) (Op.Complex.inf2one b) c d
    else if (Op.Complex.isInf c||Op.Complex.isInf d)&&Op.Complex.isFinite a&&Op.Complex.isFinite b then
     Op.Complex.corrected 0 a b (Op.Complex.inf2one c) (Op.Complex.inf2one d)
    else pure (e,f))
   (do
    let zero:=(← Op.Complex.cmp .eql .f64 c 0)&&(← Op.Complex.cmp .eql .f64 d 0)
    if !(Op.Complex.isNaN e&&Op.Complex.isNaN f) then pure (e,f)
    else if zero&&(!Op.Complex.isNaN a||!Op.Complex.isNaN b) then
     pure (← Op.Complex.mul (Op.Complex.copysign Op.Complex.inf c) a,← Op.Complex.mul (Op.Complex.copysign Op.Complex.inf c) b)
    else if (Op.Complex.isInf a||Op.Complex.isInf b)&&Op.Complex.isFinite c&&Op.Complex.isFinite d then
     Op.Complex.corrected Op.Complex.inf (Op.Complex.inf2one a) (Op.Complex.inf2one b) c d
    else if (Op.Complex.isInf c||Op.Complex.isInf d)&&Op.Complex.isFinite a&&Op.Complex.isFinite b then
     Op.Complex.corrected 0 a b (Op.Complex.inf2one c) (Op.Complex.inf2one d)
    else pure (e,f)):=by
  intro C e f
  refine zb (zbr ..) fun _ _ _=>zb (zbr ..) fun _ _ _=>?_
  refine ite_r (fun _=>zd rfl) fun _=>ite_r (fun _=>zb (zE ..) fun _ _ _=>zb (zE ..) fun _ _ _=>zd rfl) fun _=>?_
  exact ite_r (fun _=>YV ..) fun _=>ite_r (fun _=>YV ..) fun _=>zd rfl
 refine zb (zbr ..) fun _ _ _=>ite_r (fun _=>?_) fun _=>?_
 ·exact zb (zE ..) fun _ _ _=>zb (zE ..) fun _ _ _=>zb (zE ..) fun _ _ _=>zb (zE ..) fun _ _ _=>zb (zE ..) fun _ _ _=>zb (zE ..) fun _ _ _=>zb (zE ..) fun _ _ _=>zb (zE ..) fun _ _ _=>zb (zE ..) fun _ _ _=>fin _ _ _
 ·exact zb (zE ..) fun _ _ _=>zb (zE ..) fun _ _ _=>zb (zE ..) fun _ _ _=>zb (zE ..) fun _ _ _=>zb (zE ..) fun _ _ _=>zb (zE ..) fun _ _ _=>zb (zE ..) fun _ _ _=>zb (zE ..) fun _ _ _=>zb (zE ..) fun _ _ _=>fin _ _ _
theorem complexOp_r (op:BinOp) (k:FloatKind) (a b c d:Nat):SRel P (swap P fs) PV B (Op.complexOp op k a b c d) (Op.complexOp op k a b c d):=by
 have fin:∀ (C:Ren) (e f:Nat),SRel P (swap P fs) PV C (do pure (.complex k (← Op.Complex.conv .f64 e k) (← Op.Complex.conv .f64 f k))) (do pure (.complex k (← Op.Complex.conv .f64 e k) (← Op.Complex.conv .f64 f k))):=fun C e f =>
  zb (yv ..) fun _ _ _=>zb (yv ..) fun _ _ _=>pv_r (Jg _ _ _)
 cases op<;>unfold Op.complexOp<;>first
  | exact ze
  | exact zb (zE ..) fun _ _ _=>zb (zE ..) fun _ _ _=>pv_r (Jg _ _ _)
  | exact zb (zbr ..) fun _ _ _=>zb (zbr ..) fun _ _ _=>pv_r (ZV _)
  | exact zb (yv ..) fun _ _ _=>zb (yv ..) fun _ _ _=>zb (yv ..) fun _ _ _=>zb (yv ..) fun _ _ _=>zb (product_r ..) fun _ _ _=>fin _ _ _
  | exact zb (yv ..) fun _ _ _=>zb (yv ..) fun _ _ _=>zb (yv ..) fun _ _ _=>zb (yv ..) fun _ _ _=>zb (quotient_r ..) fun _ _ _=>fin _ _ _
end
end
section
section
variable {P:Program} {fs:Array Func} {B:Ren}
theorem unary_r (op:UnOp) {v v':Value} (h:VRel B v v'):SRel P (swap P fs) VR B (Op.unary op v) (Op.unary op v'):=by
 have cv:=h.case
 cases op<;>cases cv<;>unfold Op.unary<;>first
  | exact ze
  | exact zp
  | exact PV.vr (zbb _ _ _ _)
  | exact PV.vr (zcb _ _ _ _)
  | exact zd (.bool _)
  | exact zd (.float _ _)
  | exact zd (.complex _ _ _)
theorem eqGuardNil_r (n:Nat) (t:TypeId):SRel P (swap P fs) (Same Bool) B (Op.eqGuardIn (n+1) t .nilIface .nilIface) (Op.eqGuardIn (n+1) t .nilIface .nilIface):=by
 unfold Op.eqGuardIn
 refine zm fun desc _=>?_
 cases desc<;>exact zd rfl
def EqOk (P:Program) (op:BinOp) (t:TypeId):Prop:=(op=.eql∨op=.neq)→P.eqGuardType P.depth t=false
theorem eqGuard_r (op:BinOp) (t:TypeId) (ho:EqOk P op t) (x y:Operand) {v v' u u':Value} (hv:VRel B v v') (hu:VRel B u u') (n1:v≠.tuple #[]) (n2:u≠.tuple #[]):SRel P (swap P fs) (Same Unit) B (eqGuard op t x y v u) (eqGuard op t x y v' u'):=by
 unfold eqGuard
 refine ite_r (fun _=>zd rfl) fun hop=>?_
 have hop':op=.eql∨op=.neq:=by cases op<;>first|exact .inl rfl|exact .inr rfl|(exfalso;exact hop rfl)
 have cv:=hv.case
 have cu:=hu.case
 cases cv with
 | poison _=>exact (n1 rfl).elim
 | nilIface =>
  cases cu with
  | poison _=>exact (n2 rfl).elim
  | nilIface =>
   refine ite_r (fun _=>zd rfl) fun _=>?_
   exact zb (eqGuardNil_r 9999 t) fun _ _ _=>ite_r (fun _=>zp) fun _=>zd rfl
  | _=>exact zd rfl
 | agg h1 =>
  cases cu with
  | poison _=>exact (n2 rfl).elim
  | agg h2 =>
   refine zN (zN ?_)
   simp only[ZF]
   have e:P.eqGuardType P.depth t=false:=ho hop'
   have e':P.eqGuardType (Program.depth (swap P fs)) t=false:=e
   simp only[e,e',Bool.not_false,if_true]
   exact zd rfl
  | _=>exact zd rfl
 | _=>cases cu<;>first|exact zd rfl|exact (n2 rfl).elim
theorem Ji {t:TypeId} {x y:Value} (hp:x=.tuple #[]∨y=.tuple #[]) (n:Nat):Doomed P (Op.equalIn (n+1) t x y):=by
 unfold Op.equalIn
 refine .program ?_
 show Doomed P ((match P.underlying t with|some i=>pure i|none=>stuck "no such type") >>= _)
 cases hd:P.underlying t with
 | none=>exact .halt trivial
 | some d =>
  rcases hp with rfl|rfl
  ·cases d<;>cases y<;>first|exact .halt trivial|(rename_i a;cases a<;>exact .halt trivial)
  ·cases d<;>cases x<;>first|exact .halt trivial|(rename_i a;cases a<;>exact .halt trivial)|(rename_i a _ _;cases a<;>exact .halt trivial)
theorem doomed_binEq {op:BinOp} (hop:op=.eql∨op=.neq) {t:TypeId} (x y:Operand) {v u:Value} (hp:v=.tuple #[]∨u=.tuple #[]):Doomed P (do eqGuard op t x y v u;binOp op t v u):=by
 have e1:eqGuard op t x y v u=pure ():=by
  unfold eqGuard
  rcases hop with rfl|rfl<;>rcases hp with rfl|rfl<;>first|rfl|(cases v<;>rfl)
 rw[e1]
 show Doomed P (binOp op t v u)
 have hd:=Ji (P:=P) (t:=t) hp 9999
 rcases hop with rfl|rfl
 ·have e2:binOp .eql t v u=(Op.equal t v u >>= fun b=>pure (.bool b)):=by
   rcases hp with rfl|rfl<;>first|rfl|(cases v<;>rfl)
  rw[e2]
  exact Doomed.bind hd
 ·have e2:binOp .neq t v u=(Op.equal t v u >>= fun b=>pure (.bool (!b))):=by
   rcases hp with rfl|rfl<;>first|rfl|(cases v<;>rfl)
  rw[e2]
  exact Doomed.bind hd
theorem max2_r {v v' u u':Value} (hv:VRel B v v') (hu:VRel B u u'):SRel P (swap P fs) VR B (Builtin.max2 v u) (Builtin.max2 v' u'):=by
 have cv:=hv.case
 have cu:=hu.case
 cases cv<;>cases cu<;>first
  | exact ze
  | exact zp
  | exact zd (.int _ _)
  | skip
 ·rename_i k x k' y
  cases ho:k.format.order x y with
  | none=>simp only[Builtin.max2,ho];exact zb (qN _) fun _ _ _=>zd (VRel.float _ _)
  | some o=>cases o<;>simp only[Builtin.max2,ho]<;>exact zd (VRel.float _ _)
 ·simp only[Builtin.max2]
  exact (Jn _ _ _).bind fun C x x' _ h=>by
   obtain⟨rfl,h⟩:=h
   exact zb (Yk (h C)) fun _ _ _=>zd (.string _)
theorem min2_r {v v' u u':Value} (hv:VRel B v v') (hu:VRel B u u'):SRel P (swap P fs) VR B (Builtin.min2 v u) (Builtin.min2 v' u'):=by
 have cv:=hv.case
 have cu:=hu.case
 cases cv<;>cases cu<;>first
  | exact ze
  | exact zp
  | exact zd (.int _ _)
  | skip
 ·rename_i k x k' y
  cases ho:k.format.order x y with
  | none=>simp only[Builtin.min2,ho];exact zb (qN _) fun _ _ _=>zd (VRel.float _ _)
  | some o=>cases o<;>simp only[Builtin.min2,ho]<;>exact zd (VRel.float _ _)
 ·simp only[Builtin.min2]
  exact (Jn _ _ _).bind fun C x x' _ h=>by
   obtain⟨rfl,h⟩:=h
   exact zb (Yk (h C)) fun _ _ _=>zd (.string _)
theorem zbf {f:Value→Value→Sem Value} (hf:∀ C v v' u u',VRel C v v'→VRel C u u'→SRel P (swap P fs) VR C (f v u) (f v' u')):∀ (l l':List Value) {C:Ren} {v v':Value},LR (VRel C) l l'→VRel C v v'→SRel P (swap P fs) VR C (l.foldlM f v) (l'.foldlM f v')
 | [],[],C,v,v',.nil,hv=>by simp only[List.foldlM_nil];exact zd hv
 | x::l,x'::l',C,v,v',.cons hx h,hv=>by
  simp only[List.foldlM_cons]
  exact (hf C _ _ _ _ hv hx).bind fun D u u' hl hu=>zbf hf l l' (h.mono fun _ _=>VRel.mono hl) hu
theorem max_r (ts:Array TypeId) (t:TypeId) {a a':Array Value} (h:VsRel B a a'):SRel P (swap P fs) VR B (Builtin.max_ ts t a) (Builtin.max_ ts t a'):=by
 unfold Builtin.max_
 have:=h.toList
 generalize a.toList=l at this
 generalize a'.toList=l' at this
 cases this with
 | nil=>exact ze
 | cons hx h=>exact zbf (fun _ _ _ _ _=>max2_r) _ _ h hx
theorem min_r (ts:Array TypeId) (t:TypeId) {a a':Array Value} (h:VsRel B a a'):SRel P (swap P fs) VR B (Builtin.min_ ts t a) (Builtin.min_ ts t a'):=by
 unfold Builtin.min_
 have:=h.toList
 generalize a.toList=l at this
 generalize a'.toList=l' at this
 cases this with
 | nil=>exact ze
 | cons hx h=>exact zbf (fun _ _ _ _ _=>min2_r) _ _ h hx
theorem Qe (s n:Nat) {v v':Value} (h:VRel B v v') (hn:∀ a,v=.slice (some a) 0 0→n=0):SRel P (swap P fs) VsR B (Builtin.firstCells s n v) (Builtin.firstCells s n v'):=by
 by_cases he:∃ a a',v=.slice (some a) 0 0∧v'=.slice (some a') 0 0
 ·obtain⟨a,a',rfl,rfl⟩:=he
  obtain rfl:=hn _ rfl
  unfold Builtin.firstCells
  simp only[Nat.zero_mul,Nat.mul_zero]
  exact zd Rows.empty
 have cv:=h.case
 cases cv<;>first
  | exact ze
  | exact zd Rows.empty
  | exact Zm _ (by assumption)
  | exact absurd ⟨_,_,rfl,rfl⟩ he
  | skip
 refine zd ?_
 refine Rows.of rfl fun i h1 h2=>?_
 simp only[Array.getElem_map]
 exact .int _ _
theorem Qp {z z':Array Value} (h:VsRel B z z') (n:Nat):VsRel B (Builtin.zeroCells z n) (Builtin.zeroCells z' n):=by
 unfold Builtin.zeroCells
 rw[h.size]
 exact zav _ fun i=>h.getBang _
theorem cap_r (ts:Array TypeId) (t:TypeId) {a a':Array Value} (h:VsRel B a a'):SRel P (swap P fs) VR B (Builtin.cap_ ts t a) (Builtin.cap_ ts t a'):=by
 unfold Builtin.cap_
 have h0:=h.getO 0
 generalize a[0]?=x at h0
 generalize a'[0]?=y at h0
 cases ts[0]? with
 | none=>exact ze
 | some tt =>
  cases h0 with
  | none=>exact ze
  | some h0 =>
   refine zm fun d _=>?_
   have cv:=h0.case
   cases d with
   | array n e=>exact zd (.int _ _)
   | pointer arr =>
    refine zm fun d _=>?_
    cases d<;>first|exact ze|exact zd (.int _ _)
   | slice e=>cases cv<;>first|exact ze|exact zd (.int _ _)
   | chan dir e =>
    cases cv<;>first|exact ze|exact zd (.int _ _)|skip
    rename_i h
    exact (qE h).bind fun C o o' _ ho=>by cases ho<;>first|exact ze|exact zd (.int _ _)
   | _=>cases cv<;>exact ze
theorem len_r (ts:Array TypeId) (t:TypeId) {a a':Array Value} (h:VsRel B a a'):SRel P (swap P fs) VR B (Builtin.len_ ts t a) (Builtin.len_ ts t a'):=by
 unfold Builtin.len_
 have h0:=h.getO 0
 generalize a[0]?=x at h0
 generalize a'[0]?=y at h0
 cases ts[0]? with
 | none=>exact ze
 | some tt =>
  cases h0 with
  | none=>exact ze
  | some h0 =>
   refine zm fun d _=>?_
   have cv:=h0.case
   cases d with
   | array n e=>cases cv<;>exact zd (.int _ _)
   | pointer arr =>
    cases cv<;>(refine zm fun d _=>?_;cases d<;>first|exact ze|exact zd (.int _ _))
   | string=>cases cv<;>first|exact ze|exact zd (.int _ _)
   | slice e=>cases cv<;>first|exact ze|exact zd (.int _ _)
   | map k e =>
    cases cv<;>first|exact ze|exact zd (.int _ _)|skip
    rename_i h
    refine (qE h).bind fun C o o' _ ho=>?_
    cases ho<;>first|exact ze|skip
    rename_i hes
    refine zd ?_
    show VRel C (goInt _) (goInt _)
    rw[hes.size]
    exact .int _ _
   | chan dir e =>
    cases cv<;>first|exact ze|exact zd (.int _ _)|skip
    rename_i h
    refine (qE h).bind fun C o o' _ ho=>?_
    cases ho<;>first|exact ze|skip
    rename_i hes
    refine zd ?_
    show VRel C (goInt _) (goInt _)
    rw[hes.size]
    exact .int _ _
   | _=>cases cv<;>exact ze
end
end
section
section
variable {P:Program} {fs:Array Func} {B:Ren}
theorem doomed_share {α : Type} (size sLen n:Nat) (base:Option Addr) (x:Value) {k:Bool→Sem α} (hk:∀ m,Doomed P (k m)):Doomed P (Builtin.mayShare size sLen n base x >>= k):=by
 unfold Builtin.mayShare
 have tail:∀ there:Bool,Doomed P ((do
   if !there then return true
   match x with
   | .slice (some b) _ _=>do pure (!(← Builtin.holdsCells b (n*size))||base.any (·.block==b.block))
   | _=>pure false) >>= k):=by
  intro there
  cases there with
  | false=>exact hk _
  | true =>
   cases x with
   | slice b l c =>
    cases b with
    | none=>exact hk _
    | some b=>unfold Builtin.holdsCells;exact .shape fun s=>by cases s<;>exact hk _
   | _=>exact hk _
 cases base with
 | none=>exact tail true
 | some a =>
  unfold Builtin.holdsCells at tail ⊢
  refine .shape fun s=>?_
  cases s with
  | none=>exact .frozen fun f=>tail (false&&!f)
  | some s =>
   obtain⟨t,m⟩:=s
   exact .frozen fun f=>tail ((a.spot.isNone&&decide (a.off+sLen*size≤m))&&!f)
theorem Qn (s:Nat) {v v':Value} (h:VRel B v v'):SRel P (swap P fs) (fun _ a b=>a=#[]∧b=#[]) B (Builtin.firstCells s 0 v) (Builtin.firstCells s 0 v'):=by
 have cv:=h.case
 unfold Builtin.firstCells
 simp only[Nat.zero_mul,Nat.mul_zero]
 cases cv<;>first
  | exact ze
  | exact zd ⟨rfl,rfl⟩
  | exact zd ⟨by simp,by simp⟩
def ap (elem:TypeId) (size n:Nat) (zeros:Bool) (x:Value):Sem (Array Value):=
 if !zeros then Builtin.firstCells size n x else if n*size=0 then pure #[] else do pure (Builtin.zeroCells (← zeroValue elem).cells n)
theorem ap_none (elem:TypeId) (size:Nat) (zeros:Bool) {x x':Value} (h:VRel B x x'):SRel P (swap P fs) (fun _ a b=>a=#[]∧b=#[]) B (ap elem size 0 zeros x) (ap elem size 0 zeros x'):=by
 unfold ap
 exact ite_r (fun _=>Qn _ h) fun _=>ite_r (fun _=>zd ⟨rfl,rfl⟩) fun q=>absurd (Nat.zero_mul _) q
theorem zaS {v v':Value} (h:VRel B v v'):SRel P (swap P fs) (fun _ a b=>b=a∧∀ a0,v=.slice (some a0) 0 0→a=0) B (Builtin.lenOf v) (Builtin.lenOf v'):=by
 cases h<;>first|exact ze|exact zd ⟨rfl,fun a e=>by cases e;rfl⟩|exact zd ⟨rfl,fun a e=>by cases e⟩
theorem zbE {v v':Value} (h:VRel B v v'):(∃ (base base':Option Addr) (l c:Nat),v=.slice base l c∧v'=.slice base' l c∧(OR (AR B) base base'∨(∃ a a',base=some a∧base'=some a'∧l=0∧c=0)))∨∀ base l c,v≠.slice base l c:=by
 cases h with
 | slice l c h=>exact .inl ⟨_,_,l,c,rfl,rfl,.inl h⟩
 | empty=>exact .inl ⟨_,_,0,0,rfl,rfl,.inr ⟨_,_,rfl,rfl,rfl,rfl⟩⟩
 | _=>exact .inr fun _ _ _ e=>by cases e
theorem append_r (T:TypesOk P.toTables) (hB:Based P B) (ts:Array TypeId) (t:TypeId) {a a':Array Value} (h:VsRel B a a'):SRel P (swap P fs) VR B (Builtin.append_ ts t a) (Builtin.append_ ts t a'):=by
 unfold Builtin.append_
 have h0:=h.getO 0
 have h1:=h.getO 1
 generalize a[0]?=s0 at h0
 generalize a'[0]?=s0' at h0
 generalize a[1]?=x0 at h1
 generalize a'[1]?=x0' at h1
 cases ts[0]? with
 | none=>exact ze
 | some tt =>
  cases h0 with
  | none=>exact ze
  | some h0 =>
   cases h1 with
   | none=>exact ze
   | some h1 =>
    rename_i s s' x x'
    refine zm fun d _=>?_
    cases d with
    | slice elem =>
     have hs:=h0
     rcases zbE h0 with ⟨base,base',sLen,sCap,rfl,rfl,hb⟩|hno
     rotate_left
     ·cases s<;>first|exact ze|exact absurd rfl (hno _ _ _)
     refine zS fun size=>?_
     by_cases hp:x=.tuple #[]
     ·subst hp
      cases ts[1]? with
      | none=>exact .bad (h:=.stuck "slice or string expected") trivial
      | some xt=>exact zm fun d _=>ite_r (fun _=>.bad (h:=.stuck _) trivial) fun _=>.bad (h:=.stuck "slice or string expected") trivial
     have appended:∀ (C:Ren) (zeros:Bool) (n:Nat),B.le C→(zeros=false→∀ a,x=.slice (some a) 0 0→n=0)→SRel P (swap P fs) VsR C
       (ap elem size n zeros x) (ap elem size n zeros x'):=fun C zeros n hl hn =>
      ite_r (fun q=>Qe _ _ (h1.mono hl) (hn (by simpa using q))) fun _=>ite_r (fun _=>zd Rows.empty) fun _=>(qG T elem).bind fun D z z' _ hz=>zd (Qp hz.cells n)
     have grow:∀ (C:Ren) (zeros:Bool) (n:Nat),B.le C→(zeros=false→∀ a,x=.slice (some a) 0 0→n=0)→SRel P (swap P fs) VR C
       (do
        let newCap ← choose (.appendCap (sLen+n) sCap elem)
        askRoom (newCap*(← typeInfo elem).bytes)
        let old ← Builtin.firstCells size sLen (.slice base sLen sCap)
        let new ← ap elem size n zeros x
        let rest:=Builtin.zeroCells (← zeroValue elem).cells (newCap-(sLen+n))
        pure (.slice (some (← newRow elem (old++new++rest))) (sLen+n) newCap))
       (do
        let newCap ← choose (.appendCap (sLen+n) sCap elem)
        askRoom (newCap*(← typeInfo elem).bytes)
        let old ← Builtin.firstCells size sLen (.slice base' sLen sCap)
        let new ← ap elem size n zeros x'
        let rest:=Builtin.zeroCells (← zeroValue elem).cells (newCap-(sLen+n))
        pure (.slice (some (← newRow elem (old++new++rest))) (sLen+n) newCap)):=by
      intro C zeros n hl hn
      refine zb (qN _) fun D cap l1=>qe fun i _=>zb (zcq _) fun E _ l2=>?_
      refine (Qe size sLen (hs.mono ((hl.trans l1).trans l2)) fun a e=>by cases e;rfl).bind fun F old old' l3 ho=>?_
      refine (appended F zeros n (((hl.trans l1).trans l2).trans l3) hn).bind fun G nw nw' l4 hnw=>?_
      refine (qG T elem).bind fun I z z' l5 hz=>?_
      exact (JU elem (((VsRel.mono l5 (VsRel.mono l4 ho)).append (VsRel.mono l5 hnw)).append (Qp hz.cells _))).bind fun J p p' _ hp=>zd (.slice _ _ (.some hp))
     have tail:∀ (C:Ren) (zeros:Bool) (n:Nat),B.le C→(zeros=false→∀ a,x=.slice (some a) 0 0→n=0)→SRel P (swap P fs) VR C
       (do
        if sLen+n≤sCap then
         let new ← ap elem size n zeros x
         if let some a:=base then storeCells (a.add (sLen*size)) new.toList
         pure (.slice base (sLen+n) sCap)
        else
         if ((sLen+n:Nat):Int) > IntKind.i64.max∧(zeros∨(← typeInfo elem).bytes=0) then runtimePanic (.error "growslice: len out of range")
         if Builtin.nextslicecap (sLen+n) sCap*(← typeInfo elem).bytes > 2 ^ 48 then (if zeros then runtimePanic (.error "growslice: len out of range") else do
          if !(← Builtin.mayShare size sLen n base x) then mark .noRoom
          unsupported (.resourceLimit "append: a slice or a string whose bytes no memory bears"))
         let newCap ← choose (.appendCap (sLen+n) sCap elem)
         askRoom (newCap*(← typeInfo elem).bytes)
         let old ← Builtin.firstCells size sLen (.slice base sLen sCap)
         let new ← ap elem size n zeros x
         let rest:=Builtin.zeroCells (← zeroValue elem).cells (newCap-(sLen+n))
         pure (.slice (some (← newRow elem (old++new++rest))) (sLen+n) newCap))
       (do
        if sLen+n≤sCap then
         let new ← ap elem size n zeros x'
         if let some a:=base' then storeCells (a.add (sLen*size)) new.toList
         pure (.slice base' (sLen+n) sCap)
        else
         if ((sLen+n:Nat):Int) > IntKind.i64.max∧(zeros∨(← typeInfo elem).bytes=0) then runtimePanic (.error "growslice: len out of range")
         if Builtin.nextslicecap (sLen+n) sCap*(← typeInfo elem).bytes > 2 ^ 48 then (if zeros then runtimePanic (.error "growslice: len out of range") else do
          if !(← Builtin.mayShare size sLen n base' x') then mark .noRoom
          unsupported (.resourceLimit "append: a slice or a string whose bytes no memory bears"))
         let newCap ← choose (.appendCap (sLen+n) sCap elem)
         askRoom (newCap*(← typeInfo elem).bytes)
         let old ← Builtin.firstCells size sLen (.slice base' sLen sCap)
         let new ← ap elem size n zeros x'
         let rest:=Builtin.zeroCells (← zeroValue elem).cells (newCap-(sLen+n))
         pure (.slice (some (← newRow elem (old++new++rest))) (sLen+n) newCap)):=by
      intro C zeros n hl hn
      have hBC:=hB.mono hl
      refine ite_r (fun hle=>?_) fun _=>?_
      ·rcases hb with hb|⟨a,a',rfl,rfl,rfl,rfl⟩
       ·refine (appended C zeros n hl hn).bind fun D nw nw' l2 hnw=>?_
        cases hb with
        | none=>exact zd (.slice _ _ .none)
        | some hb=>exact zb (yK 0 ((hb.mono (hl.trans l2)).add _) hnw.toList) fun E _ l3=>zd (.slice _ _ (.some (hb.mono ((hl.trans l2).trans l3))))
       ·obtain rfl:n=0:=by omega
        refine (ap_none elem size zeros (h1.mono hl)).bind fun D nw nw' l2 hnw=>?_
        obtain⟨rfl,rfl⟩:=hnw
        exact zd .empty
      ·refine qe fun i _=>ite_r (fun _=>qc hBC.handle _) fun _=>?_
       refine qe fun i _=>ite_r (fun _=>?_) fun _=>grow C zeros n hl hn
       refine SRel.bind (R:=fun _ (_ _:Unit)=>False) ?_ fun _ _ _ _ h=>h.elim
       refine ite_r (fun _=>zG hBC.handle _) fun _=>?_
       refine .doomed (doomed_share _ _ _ _ _ fun m=>?_)
       cases m with
       | true=>exact .halt (h:=.unsupported (.resourceLimit _)) trivial
       | false=>exact .mark (.halt (h:=.unsupported (.resourceLimit _)) trivial)
     cases ts[1]? with
     | none=>exact (zaS h1).bind (f:=fun n=>_) (f':=fun n=>_) fun D n n' l2 e=>by obtain⟨rfl,e⟩:=e;exact tail D false n' l2 fun _=>e
     | some xt =>
      refine zm fun d _=>ite_r (fun hz=>?_) fun _=>?_
      ·refine zb (Qi h1) fun D m l2=>?_
       have hBD:=hB.mono l2
       refine ite_r (fun _=>qc hBD.handle _) fun _=>qe fun i _=>ite_r (fun _=>?_) fun _=>tail D _ _ l2 fun q=>by rw[hz] at q;cases q
       exact zb (qN _) fun E _ l3=>qc (hBD.mono l3).handle _
      ·exact (zaS h1).bind fun D n n' l2 e=>by obtain⟨rfl,e⟩:=e;exact tail D _ n' l2 fun _=>e
    | _=>exact ze
end
end
section
section
variable {P:Program} {fs:Array Func} {B:Ren}
theorem Zx {C:Ren} : VRel C (.tuple #[]) (.tuple #[]):=.tuple rfl fun i x y h=>by simp at h
theorem copy_r (ts:Array TypeId) (t:TypeId) {a a':Array Value} (h:VsRel B a a'):SRel P (swap P fs) VR B (Builtin.copy_ ts t a) (Builtin.copy_ ts t a'):=by
 unfold Builtin.copy_
 have h0:=h.getO 0
 have h1:=h.getO 1
 generalize a[0]?=s0 at h0
 generalize a'[0]?=s0' at h0
 generalize a[1]?=x0 at h1
 generalize a'[1]?=x0' at h1
 cases ts[0]? with
 | none=>exact ze
 | some tt =>
  cases h0 with
  | none=>exact ze
  | some h0 =>
   cases h1 with
   | none=>exact ze
   | some h1 =>
    rename_i s s' x x'
    refine zm fun d _=>?_
    cases d with
    | slice elem =>
     rcases zbE h0 with ⟨base,base',l,c,rfl,rfl,hb⟩|hno
     rotate_left
     ·cases s<;>first|exact ze|exact absurd rfl (hno _ _ _)
     refine (zaS h1).bind fun C n n' l1 e=>?_
     obtain⟨rfl,e⟩:=e
     refine zS fun size=>?_
     rcases hb with hb|⟨a,a',rfl,rfl,rfl,rfl⟩
     ·refine (Qe size _ (h1.mono l1) fun a q=>by rw[e a q];exact Nat.zero_min _).bind fun D cs cs' l2 hc=>?_
      cases hb with
      | none=>exact zd (.int _ _)
      | some hb=>exact zb (yK 0 (hb.mono (l1.trans l2)) hc.toList) fun _ _ _=>zd (.int _ _)
     ·rw[show Nat.min n' 0=0 from Nat.min_zero _]
      refine (Qn size (h1.mono l1)).bind fun D cs cs' l2 hc=>?_
      obtain⟨rfl,rfl⟩:=hc
      exact zd (.int _ _)
    | _=>exact ze
theorem clear_r (T:TypesOk P.toTables) (ts:Array TypeId) (t:TypeId) {a a':Array Value} (h:VsRel B a a'):SRel P (swap P fs) VR B (Builtin.clear_ ts t a) (Builtin.clear_ ts t a'):=by
 unfold Builtin.clear_
 have h0:=h.getO 0
 generalize a[0]?=s0 at h0
 generalize a'[0]?=s0' at h0
 cases ts[0]? with
 | none=>exact ze
 | some tt =>
  cases h0 with
  | none=>exact ze
  | some h0 =>
   refine zm fun d _=>?_
   have cv:=h0.case
   cases cv with
   | mapN=>exact zd Zx
   | slcN l c=>exact zd Zx
   | slcE=>exact zd Zx
   | map h =>
    refine (qE h).bind fun C o o' hl ho=>?_
    cases ho<;>first|exact zF|exact zb (qW (hl _ _ h) (.map _ Rows.empty)) fun _ _ _=>zd Zx
   | slc l c h =>
    cases l with
    | zero=>exact zd Zx
    | succ l =>
     cases d with
     | slice elem=>exact (qG T elem).bind fun C z z' hl hz=>zb (yK 0 (h.mono hl) (Qp hz.cells _).toList) fun _ _ _=>zd Zx
     | _=>exact zF
   | _=>cases d<;>exact zF
theorem close_r (hB:Based P B) (ts:Array TypeId) (t:TypeId) {a a':Array Value} (h:VsRel B a a'):SRel P (swap P fs) VR B (Builtin.close_ ts t a) (Builtin.close_ ts t a'):=by
 have hl:=h.toList
 obtain⟨l⟩:=a
 obtain⟨l'⟩:=a'
 simp only at hl
 unfold Builtin.close_
 cases hl with
 | nil=>exact ze
 | cons h1 hl =>
  cases hl with
  | cons _ _=>exact ze
  | nil =>
   have cv:=h1.case
   cases cv<;>first|exact ze|exact zG hB.handle _|skip
   rename_i r r' hr
   refine (qE hr).bind fun C o o' l1 ho=>?_
   cases ho<;>first|exact ze|skip
   rename_i hb
   refine ite_r (fun _=>qc (hB.mono l1).handle _) fun _=>?_
   exact zb (qW (l1 _ _ hr) (.chan _ _ _ _ _ hb)) fun _ _ _=>zd Zx
theorem panicnil_r (ho:B.out):SRel P (swap P fs) (Same Int) B Instr.panicnil Instr.panicnil:=by
 unfold Instr.panicnil
 refine SRel.env ho fun r=>?_
 cases r<;>first|exact ze|exact zN (zd rfl)
theorem panic_r (ho:B.out) (hB:Based P B) {v v':Value} (h:VRel B v v'):SRel P (swap P fs) VR B (Instr.panic v) (Instr.panic v'):=by
 unfold Instr.panic
 have hv:=h
 have cv:=h.case
 cases cv<;>first|exact ze|skip
 ·exact yi hv
 ·exact zb (panicnil_r ho) fun C n hl=>ite_r (fun _=>yi .nilIface) fun _=>zG (hB.mono hl).handle _
theorem typeAssert_r (T:TypesOk P.toTables) (_hB:Based P B) {v v':Value} (h:VRel B v v') (xt as:TypeId):SRel P (swap P fs) VR B (Instr.typeAssert v xt as true) (Instr.typeAssert v' xt as true):=by
 generalize hok:true=ok
 unfold Instr.typeAssert
 have holds:∀ (C:Ren) (x y:Value),VRel C x y→SRel P (swap P fs) VR C (pure (if ok then .tuple #[x,.bool true] else x)) (pure (if ok then .tuple #[y,.bool true] else y)):=by
  intro C x y h
  refine zd ?_
  show VRel C _ _
  split
  ·exact pair2 h (.bool _)
  ·exact h
 have fails:∀ (C:Ren) (s d:Option TypeId) (m:String),B.le C→SRel P (swap P fs) VR C (do if ok then pure (.tuple #[← zeroValue as,.bool false]) else runtimePanic (.typeAssertion s d as m)) (do if ok then pure (.tuple #[← zeroValue as,.bool false]) else runtimePanic (.typeAssertion s d as m)):=
  fun C s d m hl=>ite_r (fun _=>(qG T as).bind fun D z z' _ hz=>zd (pair2 hz (.bool _))) fun hn=>absurd hok.symm hn
 refine zm fun d _=>?_
 have hv:=h
 have cv:=h.case
 cases d with
 | interface want =>
  cases cv<;>first|exact ze|exact fails B _ _ _ (Ren.le.refl _)|skip
  rename_i t _ _ h
  refine qe fun i _=>?_
  cases Instr.missingMethod want i.methods with
  | none=>exact holds B _ _ hv
  | some m=>exact fails B _ _ _ (Ren.le.refl _)
 | _ =>
  cases cv<;>first|exact ze|exact fails B _ _ _ (Ren.le.refl _)|exact ite_r (fun _=>holds B _ _ (by assumption)) fun _=>fails B _ _ _ (Ren.le.refl _)
end
end
section
section
variable {P:Program} {fs:Array Func} {B:Ren}
theorem Qd {σ : Type} {f f':Value→σ→Sem (ForInStep σ)} (h:∀ C v v' s,VRel C v v'→SRel P (swap P fs) (Same _) C (f v s) (f' v' s)):∀ (l l':List Value) (s : σ) (B:Ren),LR (VRel B) l l'→SRel P (swap P fs) (Same σ) B (forIn l s f) (forIn l' s f')
 | _,_,s,B,.nil=>by simp only[List.forIn_nil];exact zd rfl
 | _,_,s,B,.cons hx hl=>by
  simp only[List.forIn_cons]
  refine zb (h B _ _ s hx) fun C r l1=>?_
  cases r with
  | done s=>exact zd rfl
  | yield s=>exact Qd h _ _ s C (hl.mono fun _ _=>VRel.mono l1)
theorem bytesToString_r {v v':Value} (h:VRel B v v'):SRel P (swap P fs) VR B (Conv.bytesToString v) (Conv.bytesToString v'):=by
 unfold Conv.bytesToString
 have cv:=h.case
 cases cv<;>first|exact ze|exact zd (.string _)|skip
 rename_i l c ha
 refine (Zm l ha).bind fun C cs cs' _ hc=>?_
 rw[← Array.forIn_toList,← Array.forIn_toList]
 refine zb (Qd (fun D v v' s hv=>?_) _ _ _ C hc.toList) fun _ _ _=>zd (.string _)
 cases hv<;>first|exact zF|exact ze|skip
 rename_i k n
 cases k<;>first|exact zF|exact ze|exact zd rfl
theorem runesToString_r {v v':Value} (h:VRel B v v'):SRel P (swap P fs) VR B (Conv.runesToString v) (Conv.runesToString v'):=by
 unfold Conv.runesToString
 have cv:=h.case
 cases cv<;>first|exact ze|exact zd (.string _)|skip
 rename_i l c ha
 refine (Zm l ha).bind fun C cs cs' _ hc=>?_
 rw[← Array.forIn_toList,← Array.forIn_toList]
 refine zb (Qd (fun D v v' s hv=>?_) _ _ _ C hc.toList) fun _ _ _=>zd (.string _)
 cases hv<;>first|exact zF|exact ze|skip
 rename_i k n
 cases k<;>first|exact zF|exact ze|exact zd rfl
theorem floatToInt_r (s:FloatKind) (b:Nat) (d:IntKind):SRel P (swap P fs) VR B (Conv.floatToInt s b d) (Conv.floatToInt s b d):=by
 unfold Conv.floatToInt
 have any:SRel P (swap P fs) VR B (do pure (.int d (d.wrap (← choose (.floatToInt s b d))))) (do pure (.int d (d.wrap (← choose (.floatToInt s b d))))):=zb (qN _) fun _ _ _=>zd (.int _ _)
 dsimp only
 cases (s.decode b).toInt .zero with
 | none=>exact any
 | some n=>exact ite_r (fun _=>zd (.int _ _)) fun _=>any
theorem complexToComplex_r (s:FloatKind) (x y:Nat) (d:FloatKind):SRel P (swap P fs) VR B (Conv.complexToComplex s x y d) (Conv.complexToComplex s x y d):=by
 unfold Conv.complexToComplex
 refine (jW s x d).bind fun C v v' _ h=>?_
 obtain⟨rfl,_⟩:=h
 cases v'<;>first|exact ze|skip
 refine (jW s y d).bind fun C v v' _ h=>?_
 obtain⟨rfl,_⟩:=h
 cases v'<;>first|exact ze|exact zd (.complex _ _ _)
def zaH (P:Program) (s d:TypeId):Prop:=P.underlying s≠some .unsafePointer∧P.underlying d≠some .unsafePointer∧∀ e,P.underlying d≠some (.slice e)
theorem doomed_text (e:TypeId):Doomed P (do match ← underlying e with|.int .u8=>Conv.bytesToString (.tuple #[])|.int .i32=>Conv.runesToString (.tuple #[])|_=>stuck "Convert: a slice of what to string?"):=by
 refine .program ?_
 show Doomed P ((match P.underlying e with|some i=>pure i|none=>stuck "no such type") >>= _)
 cases P.underlying e with
 | none=>exact .halt trivial
 | some d=>cases d<;>first|exact .halt trivial|(rename_i k;cases k<;>exact .halt trivial)
theorem convert_r {s d':TypeId} (hn:zaH P s d') {v v':Value} (h:VRel B v v'):SRel P (swap P fs) VR B (convert s d' v) (convert s d' v'):=by
 unfold convert
 refine zm fun ds hs=>zm fun dd hd=>?_
 have n1:ds≠.unsafePointer:=fun e=>hn.1 (by rw[hs,e])
 have n2:dd≠.unsafePointer:=fun e=>hn.2.1 (by rw[hd,e])
 have hv:=h
 have cv:=h.case
 cases dd with
 | unsafePointer=>exact absurd rfl n2
 | int k =>
  cases ds<;>first|exact absurd rfl n1|skip
  all_goals (cases cv<;>first|exact ze|exact zp|exact zd (.int _ _)|exact floatToInt_r _ _ _)
 | float k =>
  cases ds<;>first|exact absurd rfl n1|skip
  all_goals (cases cv<;>first|exact ze|exact zp|exact zd (.float _ _)|exact PV.vr (jW _ _ _))
 | complex k =>
  cases ds<;>first|exact absurd rfl n1|skip
  all_goals (cases cv<;>first|exact ze|exact zp|exact complexToComplex_r _ _ _ _)
 | string =>
  cases ds<;>first|exact absurd rfl n1|skip
  all_goals (cases cv<;>first|exact ze|exact zp|exact zd (.string _)|exact .doomed (doomed_text _)|skip)
  all_goals
   refine zm fun d _=>?_
   cases d<;>first|exact ze|skip
   rename_i k _
   cases k<;>first|exact ze|exact bytesToString_r hv|exact runesToString_r hv
 | slice e=>exact absurd hd (hn.2.2 e)
 | _ =>
  cases ds<;>first|exact absurd rfl n1|skip
  all_goals (cases cv<;>first|exact ze|exact zp)
end
end
end Go.Par
