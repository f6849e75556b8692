/- Operators, run beside themselves. Operators on values and the builtins, run beside themselves. append, copy, clear, delete, close, conversions, run beside themselves. copy, clear, .. -/
import Derived.Test.YtlgiofglcgbjgaaM03
namespace Go.Par
open Go
section
abbrev PV:Ren→Value→Value→Prop:=fun _ v v'=>v'=v∧Plain v
theorem plain_bool (b:Bool):Plain (.bool b):=fun _=>.bool b
theorem plain_int (k:IntKind) (n:Int):Plain (.int k n):=fun _=>.int k n
theorem js (k:FloatKind) (n:Nat):Plain (.float k n):=fun _=>.float k n
theorem plain_complex (k:FloatKind) (n m:Nat):Plain (.complex k n m):=fun _=>.complex k n m
theorem plain_string (s:ByteArray):Plain (.string s):=fun _=>.string s
section
variable {P:Program} {fs:Array Func} {B:Ren}
theorem PV.vr {s s':Sem Value} (h:SRel P (swap P fs) PV B s s'):SRel P (swap P fs) VR B s s':=h.weaken fun C v v' _ x=>by rw[x.1];exact x.2 C
theorem pv_r {v:Value} (h:Plain v):SRel P (swap P fs) PV B (pure v) (pure v):=ze ⟨rfl,h⟩
theorem intArith_r (op:BinOp) (k:IntKind) (x y:Int):SRel P (swap P fs) PV B (Op.intArith op k x y) (Op.intArith op k x y):=by
 cases op<;>first|exact zf|exact pv_r (plain_int _ _)
theorem intBits_r (op:BinOp) (k:IntKind) (x y:Int):SRel P (swap P fs) PV B (Op.intBits op k x y) (Op.intBits op k x y):=by
 cases op<;>first|exact zf|exact pv_r (plain_int _ _)
theorem intCmp_r (op:BinOp) (x y:Int):SRel P (swap P fs) PV B (Op.intCmp op x y) (Op.intCmp op x y):=by
 cases op<;>first|exact zf|exact pv_r (plain_bool _)
theorem intDiv_r (hB:Based P B) (op:BinOp) (k:IntKind) (x y:Int):SRel P (swap P fs) PV B (Op.intDiv op k x y) (Op.intDiv op k x y):=by
 unfold Op.intDiv
 refine ite_r (fun _=>zC hB.handle _) fun _=>?_
 cases op<;>first|exact zf|exact pv_r (plain_int _ _)
theorem shift_r (hB:Based P B) (op:BinOp) (k yk:IntKind) (x y:Int):SRel P (swap P fs) PV B (Op.shift op k x yk y) (Op.shift op k x yk y):=by
 unfold Op.shift
 refine ite_r (fun _=>zC hB.handle _) fun _=>?_
 cases op<;>first|exact zf|exact pv_r (plain_int _ _)
theorem stringOp_r (op:BinOp) (x y:ByteArray):SRel P (swap P fs) PV B (Op.stringOp op x y) (Op.stringOp op x y):=by
 cases op<;>unfold Op.stringOp<;>first|exact zf|exact pv_r (plain_bool _)|exact ite_r (fun _=>zr) fun _=>pv_r (plain_string _)
theorem floatCmp_r (op:BinOp) (k:FloatKind) (x y:Nat):SRel P (swap P fs) PV B (Op.floatCmp op k x y) (Op.floatCmp op k x y):=by
 cases op<;>first|exact zf|exact pv_r (plain_bool _)
theorem optFloat_r (k:FloatKind) (x y:Nat) (r:Option Nat):SRel P (swap P fs) PV B (match r with|some r=>pure (.float k r)|none=>do pure (.float k (← choose (.nanBits k x y)))) (match r with|some r=>pure (.float k r)|none=>do pure (.float k (← choose (.nanBits k x y)))):=by
 cases r with
 | some r=>exact pv_r (js _ _)
 | none=>exact zd (qS _) fun _ _ _=>pv_r (js _ _)
theorem floatArith_r (op:BinOp) (k:FloatKind) (x y:Nat):SRel P (swap P fs) PV B (Op.floatArith op k x y) (Op.floatArith op k x y):=by
 unfold Op.floatArith
 cases op<;>first|exact zG|exact optFloat_r k x y _
theorem floatToFloat_r (s:FloatKind) (b:Nat) (d:FloatKind):SRel P (swap P fs) PV B (Conv.floatToFloat s b d) (Conv.floatToFloat s b d):=by
 unfold Conv.floatToFloat
 refine ite_r (fun _=>pv_r (js _ _)) fun _=>?_
 cases s.decode b with
 | nan=>exact zd (qS _) fun _ _ _=>pv_r (js _ _)
 | infinity s=>exact pv_r (js _ _)
 | number s m e=>exact ite_r (fun _=>zd (qS _) fun _ _ _=>pv_r (js _ _)) fun _=>pv_r (js _ _)
theorem toNat_r {s:Sem Value} {k:String} (h:SRel P (swap P fs) PV B s s):SRel P (swap P fs) (Same Nat) B (s >>= fun v=>match v with|.float _ r=>pure r|_=>stuck k) (s >>= fun v=>match v with|.float _ r=>pure r|_=>stuck k):=
 h.bind fun C v v' _ x=>by
  obtain⟨rfl,_⟩:=x
  cases v'<;>first|exact zf|exact ze rfl
theorem zE (op:BinOp) (k:FloatKind) (x y:Nat):SRel P (swap P fs) (Same Nat) B (Op.Complex.arith op k x y) (Op.Complex.arith op k x y):=toNat_r (floatArith_r op k x y)
theorem cCmp_r (op:BinOp) (k:FloatKind) (x y:Nat):SRel P (swap P fs) (Same Bool) B (Op.Complex.cmp op k x y) (Op.Complex.cmp op k x y):=
 (floatCmp_r op k x y).bind fun C v v' _ x=>by
  obtain⟨rfl,h⟩:=x
  exact asBool_r (h C)
theorem cConv_r (s:FloatKind) (x:Nat) (d:FloatKind):SRel P (swap P fs) (Same Nat) B (Op.Complex.conv s x d) (Op.Complex.conv s x d):=by
 unfold Op.Complex.conv
 exact ite_r (fun _=>ze rfl) fun _=>toNat_r (floatToFloat_r s x d)
theorem product_r (a b c d:Nat):SRel P (swap P fs) (Same _) B (Op.Complex.product a b c d) (Op.Complex.product a b c d):=by
 unfold Op.Complex.product
 exact zd (zE ..) fun _ _ _=>zd (zE ..) fun _ _ _=>zd (zE ..) fun _ _ _=>zd (zE ..) fun _ _ _=>zd (zE ..) fun _ _ _=>zd (zE ..) fun _ _ _=>ze rfl
theorem corrected_r (s a b c d:Nat):SRel P (swap P fs) (Same _) B (Op.Complex.corrected s a b c d) (Op.Complex.corrected s a b c d):=by
 unfold Op.Complex.corrected
 exact zd (zE ..) fun _ _ _=>zd (zE ..) fun _ _ _=>zd (zE ..) fun _ _ _=>zd (zE ..) fun _ _ _=>zd (zE ..) fun _ _ _=>zd (zE ..) fun _ _ _=>zd (zE ..) fun _ _ _=>zd (zE ..) fun _ _ _=>ze rfl
theorem quotient_r (a b c d:Nat):SRel P (swap P fs) (Same _) B (Op.Complex.quotient a b c d) (Op.Complex.quotient a b c d):=by
 unfold Op.Complex.quotient
 have fin:∀ (C:Ren) (e f:Nat),SRel P (swap P fs) (Same _) C
   (do
    let zero:=(← Op.Complex.cmp .eql .f64 c 0)&&(← Op.Complex.cmp .eql .f64 d 0)
    if !(Op.Complex.isNaN e&&Op.Complex.isNaN f) then pure (e,f)
    else if zero&&(!Op.Complex.isNaN a||!Op.Complex.isNaN b) then
     pure (← Op.Complex.mul (Op.Complex.copysign Op.Complex.inf c) a,← Op.Complex.mul (Op.Complex.copysign Op.Complex.inf c) b)
    else if (Op.Complex.isInf a||Op.Complex.isInf b)&&Op.Complex.isFinite c&&Op.Complex.isFinite d then
     Op.Complex.corrected Op.Complex.inf (Op.Complex.inf2one a) (Op.Complex.inf2one b) c d
    else if (Op.Complex.isInf c||Op.Complex.isInf d)&&Op.Complex.isFinite a&&Op.Complex.isFinite b then
     Op.Complex.corrected 0 a b (Op.Complex.inf2one c) (Op.Complex.inf2one d)
    else pure (e,f))
   (do
    let zero:=(← Op.Complex.cmp .eql .f64 c 0)&&(← Op.Complex.cmp .eql .f64 d 0)
    if !(Op.Complex.isNaN e&&Op.Complex.isNaN f) then pure (e,f)
    else if zero&&(!Op.Complex.isNaN a||!Op.Complex.isNaN b) then
     pure (← Op.Complex.mul (Op.Complex.copysign Op.Complex.inf c) a,← Op.Complex.mul (Op.Complex.copysign Op.Complex.inf c) b)
    else if (Op.Complex.isInf a||Op.Complex.isInf b)&&Op.Complex.isFinite c&&Op.Complex.isFinite d then
     Op.Complex.corrected Op.Complex.inf (Op.Complex.inf2one a) (Op.Complex.inf2one b) c d
    else if (Op.Complex.isInf c||Op.Complex.isInf d)&&Op.Complex.isFinite a&&Op.Complex.isFinite b then
     Op.Complex.corrected 0 a b (Op.Complex.inf2one c) (Op.Complex.inf2one d)
    else pure (e,f)):=by
  intro C e f
  refine zd (cCmp_r ..) fun _ _ _=>zd (cCmp_r ..) fun _ _ _=>?_
  refine ite_r (fun _=>ze rfl) fun _=>ite_r (fun _=>zd (zE ..) fun _ _ _=>zd (zE ..) fun _ _ _=>ze rfl) fun _=>?_
  exact ite_r (fun _=>corrected_r ..) fun _=>ite_r (fun _=>corrected_r ..) fun _=>ze rfl
 refine zd (cCmp_r ..) fun _ _ _=>ite_r (fun _=>?_) fun _=>?_
 ·exact zd (zE ..) fun _ _ _=>zd (zE ..) fun _ _ _=>zd (zE ..) fun _ _ _=>zd (zE ..) fun _ _ _=>zd (zE ..) fun _ _ _=>zd (zE ..) fun _ _ _=>zd (zE ..) fun _ _ _=>zd (zE ..) fun _ _ _=>zd (zE ..) fun _ _ _=>fin _ _ _
 ·exact zd (zE ..) fun _ _ _=>zd (zE ..) fun _ _ _=>zd (zE ..) fun _ _ _=>zd (zE ..) fun _ _ _=>zd (zE ..) fun _ _ _=>zd (zE ..) fun _ _ _=>zd (zE ..) fun _ _ _=>zd (zE ..) fun _ _ _=>zd (zE ..) fun _ _ _=>fin _ _ _
theorem complexOp_r (op:BinOp) (k:FloatKind) (a b c d:Nat):SRel P (swap P fs) PV B (Op.complexOp op k a b c d) (Op.complexOp op k a b c d):=by
 have fin:∀ (C:Ren) (e f:Nat),SRel P (swap P fs) PV C (do pure (.complex k (← Op.Complex.conv .f64 e k) (← Op.Complex.conv .f64 f k))) (do pure (.complex k (← Op.Complex.conv .f64 e k) (← Op.Complex.conv .f64 f k))):=fun C e f =>
  zd (cConv_r ..) fun _ _ _=>zd (cConv_r ..) fun _ _ _=>pv_r (plain_complex _ _ _)
 cases op<;>unfold Op.complexOp<;>first
  | exact zf
  | exact zd (zE ..) fun _ _ _=>zd (zE ..) fun _ _ _=>pv_r (plain_complex _ _ _)
  | exact zd (cCmp_r ..) fun _ _ _=>zd (cCmp_r ..) fun _ _ _=>pv_r (plain_bool _)
  | exact zd (cConv_r ..) fun _ _ _=>zd (cConv_r ..) fun _ _ _=>zd (cConv_r ..) fun _ _ _=>zd (cConv_r ..) fun _ _ _=>zd (product_r ..) fun _ _ _=>fin _ _ _
  | exact zd (cConv_r ..) fun _ _ _=>zd (cConv_r ..) fun _ _ _=>zd (cConv_r ..) fun _ _ _=>zd (cConv_r ..) fun _ _ _=>zd (quotient_r ..) fun _ _ _=>fin _ _ _
end
end
section
section
variable {P:Program} {fs:Array Func} {B:Ren}
theorem unary_r (op:UnOp) {v v':Value} (h:VRel B v v'):SRel P (swap P fs) VR B (Op.unary op v) (Op.unary op v'):=by
 have cv:=h.case
 cases op<;>cases cv<;>unfold Op.unary<;>first
  | exact zf
  | exact zr
  | exact PV.vr (intArith_r _ _ _ _)
  | exact PV.vr (intBits_r _ _ _ _)
  | exact ze (.bool _)
  | exact ze (.float _ _)
  | exact ze (.complex _ _ _)
theorem eqGuardNil_r (n:Nat) (t:TypeId):SRel P (swap P fs) (Same Bool) B (Op.eqGuardIn (n+1) t .nilIface .nilIface) (Op.eqGuardIn (n+1) t .nilIface .nilIface):=by
 unfold Op.eqGuardIn
 refine zm fun desc _=>?_
 cases desc<;>exact ze rfl
def EqOk (P:Program) (op:BinOp) (t:TypeId):Prop:=(op=.eql∨op=.neq)→P.eqGuardType P.depth t=false
theorem eqGuard_r (op:BinOp) (t:TypeId) (ho:EqOk P op t) (x y:Operand) {v v' u u':Value} (hv:VRel B v v') (hu:VRel B u u') (n1:v≠.tuple #[]) (n2:u≠.tuple #[]):SRel P (swap P fs) (Same Unit) B (eqGuard op t x y v u) (eqGuard op t x y v' u'):=by
 unfold eqGuard
 refine ite_r (fun _=>ze rfl) fun hop=>?_
 have hop':op=.eql∨op=.neq:=by cases op<;>first|exact .inl rfl|exact .inr rfl|(exfalso;exact hop rfl)
 have cv:=hv.case
 have cu:=hu.case
 cases cv with
 | poison _=>exact (n1 rfl).elim
 | nilIface =>
  cases cu with
  | poison _=>exact (n2 rfl).elim
  | nilIface =>
   refine ite_r (fun _=>ze rfl) fun _=>?_
   exact zd (eqGuardNil_r 9999 t) fun _ _ _=>ite_r (fun _=>zr) fun _=>ze rfl
  | _=>exact ze rfl
 | agg h1 =>
  cases cu with
  | poison _=>exact (n2 rfl).elim
  | agg h2 =>
   refine zN (zN ?_)
   simp only[eqGuardType_swap]
   have e:P.eqGuardType P.depth t=false:=ho hop'
   have e':P.eqGuardType (Program.depth (swap P fs)) t=false:=e
   simp only[e,e',Bool.not_false,if_true]
   exact ze rfl
  | _=>exact ze rfl
 | _=>cases cu<;>first|exact ze rfl|exact (n2 rfl).elim
theorem doomed_equal' {t:TypeId} {x y:Value} (hp:x=.tuple #[]∨y=.tuple #[]) (n:Nat):Doomed P (Op.equalIn (n+1) t x y):=by
 unfold Op.equalIn
 refine .program ?_
 show Doomed P ((match P.underlying t with|some i=>pure i|none=>stuck "no such type") >>= _)
 cases hd:P.underlying t with
 | none=>exact .halt trivial
 | some d =>
  rcases hp with rfl|rfl
  ·cases d<;>cases y<;>first|exact .halt trivial|(rename_i a;cases a<;>exact .halt trivial)
  ·cases d<;>cases x<;>first|exact .halt trivial|(rename_i a;cases a<;>exact .halt trivial)|(rename_i a _ _;cases a<;>exact .halt trivial)
theorem doomed_binEq {op:BinOp} (hop:op=.eql∨op=.neq) {t:TypeId} (x y:Operand) {v u:Value} (hp:v=.tuple #[]∨u=.tuple #[]):Doomed P (do eqGuard op t x y v u;binOp op t v u):=by
 have e1:eqGuard op t x y v u=pure ():=by
  unfold eqGuard
  rcases hop with rfl|rfl<;>rcases hp with rfl|rfl<;>first|rfl|(cases v<;>rfl)
 rw[e1]
 show Doomed P (binOp op t v u)
 have hd:=doomed_equal' (P:=P) (t:=t) hp 9999
 rcases hop with rfl|rfl
 ·have e2:binOp .eql t v u=(Op.equal t v u >>= fun b=>pure (.bool b)):=by
   rcases hp with rfl|rfl<;>first|rfl|(cases v<;>rfl)
  rw[e2]
  exact Doomed.bind hd
 ·have e2:binOp .neq t v u=(Op.equal t v u >>= fun b=>pure (.bool (!b))):=by
   rcases hp with rfl|rfl<;>first|rfl|(cases v<;>rfl)
  rw[e2]
  exact Doomed.bind hd
theorem max2_r {v v' u u':Value} (hv:VRel B v v') (hu:VRel B u u'):SRel P (swap P fs) VR B (Builtin.max2 v u) (Builtin.max2 v' u'):=by
 have cv:=hv.case
 have cu:=hu.case
 cases cv<;>cases cu<;>first
  | exact zf
  | exact zr
  | exact ze (.int _ _)
  | skip
 ·rename_i k x k' y
  cases ho:k.format.order x y with
  | none=>simp only[Builtin.max2,ho];exact zd (qS _) fun _ _ _=>ze (VRel.float _ _)
  | some o=>cases o<;>simp only[Builtin.max2,ho]<;>exact ze (VRel.float _ _)
 ·simp only[Builtin.max2]
  exact (stringOp_r _ _ _).bind fun C x x' _ h=>by
   obtain⟨rfl,h⟩:=h
   exact zd (asBool_r (h C)) fun _ _ _=>ze (.string _)
theorem min2_r {v v' u u':Value} (hv:VRel B v v') (hu:VRel B u u'):SRel P (swap P fs) VR B (Builtin.min2 v u) (Builtin.min2 v' u'):=by
 have cv:=hv.case
 have cu:=hu.case
 cases cv<;>cases cu<;>first
  | exact zf
  | exact zr
  | exact ze (.int _ _)
  | skip
 ·rename_i k x k' y
  cases ho:k.format.order x y with
  | none=>simp only[Builtin.min2,ho];exact zd (qS _) fun _ _ _=>ze (VRel.float _ _)
  | some o=>cases o<;>simp only[Builtin.min2,ho]<;>exact ze (VRel.float _ _)
 ·simp only[Builtin.min2]
  exact (stringOp_r _ _ _).bind fun C x x' _ h=>by
   obtain⟨rfl,h⟩:=h
   exact zd (asBool_r (h C)) fun _ _ _=>ze (.string _)
theorem foldlM_r {f:Value→Value→Sem Value} (hf:∀ C v v' u u',VRel C v v'→VRel C u u'→SRel P (swap P fs) VR C (f v u) (f v' u')):∀ (l l':List Value) {C:Ren} {v v':Value},LR (VRel C) l l'→VRel C v v'→SRel P (swap P fs) VR C (l.foldlM f v) (l'.foldlM f v')
 | [],[],C,v,v',.nil,hv=>by simp only[List.foldlM_nil];exact ze hv
 | x::l,x'::l',C,v,v',.cons hx h,hv=>by
  simp only[List.foldlM_cons]
  exact (hf C _ _ _ _ hv hx).bind fun D u u' hl hu=>foldlM_r hf l l' (h.mono fun _ _=>VRel.mono hl) hu
theorem max_r (ts:Array TypeId) (t:TypeId) {a a':Array Value} (h:VsRel B a a'):SRel P (swap P fs) VR B (Builtin.max_ ts t a) (Builtin.max_ ts t a'):=by
 unfold Builtin.max_
 have:=h.toList
 generalize a.toList=l at this
 generalize a'.toList=l' at this
 cases this with
 | nil=>exact zf
 | cons hx h=>exact foldlM_r (fun _ _ _ _ _=>max2_r) _ _ h hx
theorem min_r (ts:Array TypeId) (t:TypeId) {a a':Array Value} (h:VsRel B a a'):SRel P (swap P fs) VR B (Builtin.min_ ts t a) (Builtin.min_ ts t a'):=by
 unfold Builtin.min_
 have:=h.toList
 generalize a.toList=l at this
 generalize a'.toList=l' at this
 cases this with
 | nil=>exact zf
 | cons hx h=>exact foldlM_r (fun _ _ _ _ _=>min2_r) _ _ h hx
theorem lenOf_r {v v':Value} (h:VRel B v v'):SRel P (swap P fs) (Same Nat) B (Builtin.lenOf v) (Builtin.lenOf v'):=by
 cases h<;>first|exact zf|exact ze rfl
theorem firstCells_r (s n:Nat) {v v':Value} (h:VRel B v v'):SRel P (swap P fs) VsR B (Builtin.firstCells s n v) (Builtin.firstCells s n v'):=by
 have cv:=h.case
 cases cv<;>first
  | exact zf
  | exact ze Rows.empty
  | exact loadCells_r _ (by assumption)
  | skip
 refine ze ?_
 refine Rows.of rfl fun i h1 h2=>?_
 simp only[Array.getElem_map]
 exact .int _ _
theorem zeroCells_r {z z':Array Value} (h:VsRel B z z') (n:Nat):VsRel B (Builtin.zeroCells z n) (Builtin.zeroCells z' n):=by
 unfold Builtin.zeroCells
 rw[h.size]
 exact rangeMap_r _ fun i=>h.getBang _
theorem holdsCells_r {a a':Addr} (h:AR B a a') (n:Nat):SRel P (swap P fs) (Same Bool) B (Builtin.holdsCells a n) (Builtin.holdsCells a' n):=by
 unfold Builtin.holdsCells
 refine zd (shape_r h.block) fun C s _=>?_
 rw[h.spot,h.off]
 cases s<;>exact ze rfl
theorem cap_r (ts:Array TypeId) (t:TypeId) {a a':Array Value} (h:VsRel B a a'):SRel P (swap P fs) VR B (Builtin.cap_ ts t a) (Builtin.cap_ ts t a'):=by
 unfold Builtin.cap_
 have h0:=h.getO 0
 generalize a[0]?=x at h0
 generalize a'[0]?=y at h0
 cases ts[0]? with
 | none=>exact zf
 | some tt =>
  cases h0 with
  | none=>exact zf
  | some h0 =>
   refine zm fun d _=>?_
   have cv:=h0.case
   cases d with
   | array n e=>exact ze (.int _ _)
   | pointer arr =>
    refine zm fun d _=>?_
    cases d<;>first|exact zf|exact ze (.int _ _)
   | slice e=>cases cv<;>first|exact zf|exact ze (.int _ _)
   | chan dir e =>
    cases cv<;>first|exact zf|exact ze (.int _ _)|skip
    rename_i h
    exact (qF h).bind fun C o o' _ ho=>by cases ho<;>first|exact zf|exact ze (.int _ _)
   | _=>cases cv<;>exact zf
theorem len_r (ts:Array TypeId) (t:TypeId) {a a':Array Value} (h:VsRel B a a'):SRel P (swap P fs) VR B (Builtin.len_ ts t a) (Builtin.len_ ts t a'):=by
 unfold Builtin.len_
 have h0:=h.getO 0
 generalize a[0]?=x at h0
 generalize a'[0]?=y at h0
 cases ts[0]? with
 | none=>exact zf
 | some tt =>
  cases h0 with
  | none=>exact zf
  | some h0 =>
   refine zm fun d _=>?_
   have cv:=h0.case
   cases d with
   | array n e=>cases cv<;>exact ze (.int _ _)
   | pointer arr =>
    cases cv<;>(refine zm fun d _=>?_;cases d<;>first|exact zf|exact ze (.int _ _))
   | string=>cases cv<;>first|exact zf|exact ze (.int _ _)
   | slice e=>cases cv<;>first|exact zf|exact ze (.int _ _)
   | map k e =>
    cases cv<;>first|exact zf|exact ze (.int _ _)|skip
    rename_i h
    refine (qF h).bind fun C o o' _ ho=>?_
    cases ho<;>first|exact zf|skip
    rename_i hes
    refine ze ?_
    show VRel C (goInt _) (goInt _)
    rw[hes.size]
    exact .int _ _
   | chan dir e =>
    cases cv<;>first|exact zf|exact ze (.int _ _)|skip
    rename_i h
    refine (qF h).bind fun C o o' _ ho=>?_
    cases ho<;>first|exact zf|skip
    rename_i hes
    refine ze ?_
    show VRel C (goInt _) (goInt _)
    rw[hes.size]
    exact .int _ _
   | _=>cases cv<;>exact zf
end
end
section
section
variable {P:Program} {fs:Array Func} {B:Ren}
theorem mayShare_r (size sLen n:Nat) {base base':Option Addr} {x x':Value} (hb:OR (AR B) base base') (hx:VRel B x x') (hnp:x≠.tuple #[]):SRel P (swap P fs) LeB B (Builtin.mayShare size sLen n base x) (Builtin.mayShare size sLen n base' x'):=by
 unfold Builtin.mayShare
 have tail:∀ (C:Ren) (there:Bool),B.le C→SRel P (swap P fs) (Same Bool) C
   (do
    if !there then return true
    match x with
    | .slice (some b) _ _=>do pure (!(← Builtin.holdsCells b (n*size))||base.any (·.block==b.block))
    | _=>pure false)
   (do
    if !there then return true
    match x' with
    | .slice (some b) _ _=>do pure (!(← Builtin.holdsCells b (n*size))||base'.any (·.block==b.block))
    | _=>pure false):=by
  intro C there hl
  refine ite_r (fun _=>ze rfl) fun _=>?_
  have cx:=(hx.mono hl).case
  cases cx<;>first|exact ze rfl|exact (hnp rfl).elim|skip
  rename_i a a' _ _ ha
  refine zd (holdsCells_r ha _) fun D b hl2=>ze ?_
  cases hb with
  | none=>rfl
  | some hb=>simp only[Option.any_some];rw[((hb.mono hl).mono hl2).beqBlock (ha.mono hl2)]
 have same:∀ (C:Ren) (there:Bool),B.le C→SRel P (swap P fs) LeB C _ _:=fun C there hl=>(tail C there hl).weaken fun _ _ _ _ e=>by cases e;exact id
 cases hb with
 | none=>exact same B true (Ren.le.refl _)
 | some hb =>
  refine zd (holdsCells_r hb _) fun C h1 hl=>(frozen_r ((hb.mono hl).add _)).bind fun D f f' hl2 hf=>?_
  cases f with
  | false =>
   have:f'=false:=by
    cases f' with
    | false=>rfl
    | true=>exact (hf rfl).symm
   subst this
   exact same D (h1&&!false) (hl.trans hl2)
  | true =>
   cases f' with
   | true=>exact same D (h1&&!true) (hl.trans hl2)
   | false =>
    cases h1 with
    | false=>exact ze fun _=>rfl
    | true =>
     have cx:=hx.case
     cases cx<;>first|exact ze fun _=>rfl|exact (hnp rfl).elim|skip
     exact SRel.shapeR fun s=>by cases s<;>exact ze fun _=>rfl
def ap (elem:TypeId) (size n:Nat) (zeros:Bool) (x:Value):Sem (Array Value):=
 if !zeros then Builtin.firstCells size n x else if n*size=0 then pure #[] else do pure (Builtin.zeroCells (← zeroValue elem).cells n)
theorem append_r (T:TypesOk P.toTables) (hB:Based P B) (ts:Array TypeId) (t:TypeId) {a a':Array Value} (h:VsRel B a a'):SRel P (swap P fs) VR B (Builtin.append_ ts t a) (Builtin.append_ ts t a'):=by
 unfold Builtin.append_
 have h0:=h.getO 0
 have h1:=h.getO 1
 generalize a[0]?=s0 at h0
 generalize a'[0]?=s0' at h0
 generalize a[1]?=x0 at h1
 generalize a'[1]?=x0' at h1
 cases ts[0]? with
 | none=>exact zf
 | some tt =>
  cases h0 with
  | none=>exact zf
  | some h0 =>
   cases h1 with
   | none=>exact zf
   | some h1 =>
    rename_i s s' x x'
    refine zm fun d _=>?_
    cases d with
    | slice elem =>
     have hs:=h0
     cases h0<;>first|exact zf|skip
     rename_i base base' sLen sCap hb
     refine zV fun size=>?_
     by_cases hp:x=.tuple #[]
     ·subst hp
      cases ts[1]? with
      | none=>exact .bad (h:=.stuck "slice or string expected") trivial
      | some xt=>exact zm fun d _=>ite_r (fun _=>.bad (h:=.stuck _) trivial) fun _=>.bad (h:=.stuck "slice or string expected") trivial
     have appended:∀ (C:Ren) (zeros:Bool) (n:Nat),B.le C→SRel P (swap P fs) VsR C
       (ap elem size n zeros x) (ap elem size n zeros x'):=fun C zeros n hl =>
      ite_r (fun _=>firstCells_r _ _ (h1.mono hl)) fun _=>ite_r (fun _=>ze Rows.empty) fun _=>(qG T elem).bind fun D z z' _ hz=>ze (zeroCells_r hz.cells n)
     have grow:∀ (C:Ren) (zeros:Bool) (n:Nat),B.le C→SRel P (swap P fs) VR C
       (do
        let newCap ← choose (.appendCap (sLen+n) sCap elem)
        askRoom (newCap*(← typeInfo elem).bytes)
        let old ← Builtin.firstCells size sLen (.slice base sLen sCap)
        let new ← ap elem size n zeros x
        let rest:=Builtin.zeroCells (← zeroValue elem).cells (newCap-(sLen+n))
        pure (.slice (some (← newRow elem (old++new++rest))) (sLen+n) newCap))
       (do
        let newCap ← choose (.appendCap (sLen+n) sCap elem)
        askRoom (newCap*(← typeInfo elem).bytes)
        let old ← Builtin.firstCells size sLen (.slice base' sLen sCap)
        let new ← ap elem size n zeros x'
        let rest:=Builtin.zeroCells (← zeroValue elem).cells (newCap-(sLen+n))
        pure (.slice (some (← newRow elem (old++new++rest))) (sLen+n) newCap)):=by
      intro C zeros n hl
      refine zd (qS _) fun D cap l1=>qf fun i _=>zd (askRoom_r _) fun E _ l2=>?_
      refine (firstCells_r size sLen (hs.mono ((hl.trans l1).trans l2))).bind fun F old old' l3 ho=>?_
      refine (appended F zeros n (((hl.trans l1).trans l2).trans l3)).bind fun G nw nw' l4 hn=>?_
      refine (qG T elem).bind fun I z z' l5 hz=>?_
      exact (newRow_r elem (((VsRel.mono l5 (VsRel.mono l4 ho)).append (VsRel.mono l5 hn)).append (zeroCells_r hz.cells _))).bind fun J p p' _ hp=>ze (.slice _ _ (.some hp))
     have tail:∀ (C:Ren) (zeros:Bool) (n:Nat),B.le C→SRel P (swap P fs) VR C
       (do
        if sLen+n≤sCap then
         let new ← ap elem size n zeros x
         if let some a:=base then storeCells (a.add (sLen*size)) new.toList
         pure (.slice base (sLen+n) sCap)
        else
         if ((sLen+n:Nat):Int) > IntKind.i64.max∧(zeros∨(← typeInfo elem).bytes=0) then runtimePanic (.error "growslice: len out of range")
         if Builtin.nextslicecap (sLen+n) sCap*(← typeInfo elem).bytes > 2 ^ 48 then (if zeros then runtimePanic (.error "growslice: len out of range") else do
          if !(← Builtin.mayShare size sLen n base x) then mark .noRoom
          unsupported (.resourceLimit "append: a slice or a string whose bytes no memory bears"))
         let newCap ← choose (.appendCap (sLen+n) sCap elem)
         askRoom (newCap*(← typeInfo elem).bytes)
         let old ← Builtin.firstCells size sLen (.slice base sLen sCap)
         let new ← ap elem size n zeros x
         let rest:=Builtin.zeroCells (← zeroValue elem).cells (newCap-(sLen+n))
         pure (.slice (some (← newRow elem (old++new++rest))) (sLen+n) newCap))
       (do
        if sLen+n≤sCap then
         let new ← ap elem size n zeros x'
         if let some a:=base' then storeCells (a.add (sLen*size)) new.toList
         pure (.slice base' (sLen+n) sCap)
        else
         if ((sLen+n:Nat):Int) > IntKind.i64.max∧(zeros∨(← typeInfo elem).bytes=0) then runtimePanic (.error "growslice: len out of range")
         if Builtin.nextslicecap (sLen+n) sCap*(← typeInfo elem).bytes > 2 ^ 48 then (if zeros then runtimePanic (.error "growslice: len out of range") else do
          if !(← Builtin.mayShare size sLen n base' x') then mark .noRoom
          unsupported (.resourceLimit "append: a slice or a string whose bytes no memory bears"))
         let newCap ← choose (.appendCap (sLen+n) sCap elem)
         askRoom (newCap*(← typeInfo elem).bytes)
         let old ← Builtin.firstCells size sLen (.slice base' sLen sCap)
         let new ← ap elem size n zeros x'
         let rest:=Builtin.zeroCells (← zeroValue elem).cells (newCap-(sLen+n))
         pure (.slice (some (← newRow elem (old++new++rest))) (sLen+n) newCap)):=by
      intro C zeros n hl
      have hBC:=hB.mono hl
      refine ite_r (fun _=>?_) fun _=>?_
      ·refine (appended C zeros n hl).bind fun D nw nw' l2 hn=>?_
       cases hb with
       | none=>exact ze (.slice _ _ .none)
       | some hb=>exact zd (storeCells_r 0 ((hb.mono (hl.trans l2)).add _) hn.toList) fun E _ l3=>ze (.slice _ _ (.some (hb.mono ((hl.trans l2).trans l3))))
      ·refine qf fun i _=>ite_r (fun _=>qd hBC.handle _) fun _=>?_
       refine qf fun i _=>ite_r (fun _=>?_) fun _=>grow C zeros n hl
       refine SRel.bind (R:=fun _ (_ _:Unit)=>False) ?_ fun _ _ _ _ h=>h.elim
       refine ite_r (fun _=>zC hBC.handle _) fun _=>?_
       refine (mayShare_r size sLen n (hb.mono fun _ _=>AR.mono hl) (h1.mono hl) hp).bind fun D m m' l2 _=>.doomed ?_
       cases m with
       | true=>exact .halt (h:=.unsupported (.resourceLimit _)) trivial
       | false=>exact .mark (.halt (h:=.unsupported (.resourceLimit _)) trivial)
     cases ts[1]? with
     | none=>exact (lenOf_r h1).bind (f:=fun n=>_) (f':=fun n=>_) fun D n n' l2 e=>by cases e;exact tail D false n l2
     | some xt =>
      refine zm fun d _=>ite_r (fun _=>?_) fun _=>?_
      ·refine zd (asInt_r h1) fun D m l2=>?_
       have hBD:=hB.mono l2
       refine ite_r (fun _=>qd hBD.handle _) fun _=>qf fun i _=>ite_r (fun _=>?_) fun _=>tail D _ _ l2
       exact zd (qS _) fun E _ l3=>qd (hBD.mono l3).handle _
      ·exact zd (lenOf_r h1) fun D n l2=>tail D _ n l2
    | _=>exact zf
end
end
section
section
variable {P:Program} {fs:Array Func} {B:Ren}
theorem none_r {C:Ren} : VRel C (.tuple #[]) (.tuple #[]):=.tuple rfl fun i x y h=>by simp at h
theorem copy_r (ts:Array TypeId) (t:TypeId) {a a':Array Value} (h:VsRel B a a'):SRel P (swap P fs) VR B (Builtin.copy_ ts t a) (Builtin.copy_ ts t a'):=by
 unfold Builtin.copy_
 have h0:=h.getO 0
 have h1:=h.getO 1
 generalize a[0]?=s0 at h0
 generalize a'[0]?=s0' at h0
 generalize a[1]?=x0 at h1
 generalize a'[1]?=x0' at h1
 cases ts[0]? with
 | none=>exact zf
 | some tt =>
  cases h0 with
  | none=>exact zf
  | some h0 =>
   cases h1 with
   | none=>exact zf
   | some h1 =>
    refine zm fun d _=>?_
    cases d with
    | slice elem =>
     cases h0<;>first|exact zf|skip
     rename_i base base' l c hb
     refine zd (lenOf_r h1) fun C n l1=>zV fun size=>?_
     refine (firstCells_r size _ (h1.mono l1)).bind fun D cs cs' l2 hc=>?_
     cases hb with
     | none=>exact ze (.int _ _)
     | some hb=>exact zd (storeCells_r 0 (hb.mono (l1.trans l2)) hc.toList) fun _ _ _=>ze (.int _ _)
    | _=>exact zf
theorem clear_r (T:TypesOk P.toTables) (ts:Array TypeId) (t:TypeId) {a a':Array Value} (h:VsRel B a a'):SRel P (swap P fs) VR B (Builtin.clear_ ts t a) (Builtin.clear_ ts t a'):=by
 unfold Builtin.clear_
 have h0:=h.getO 0
 generalize a[0]?=s0 at h0
 generalize a'[0]?=s0' at h0
 cases ts[0]? with
 | none=>exact zf
 | some tt =>
  cases h0 with
  | none=>exact zf
  | some h0 =>
   refine zm fun d _=>?_
   have cv:=h0.case
   cases cv with
   | mapN=>exact ze none_r
   | slcN l c=>exact ze none_r
   | map h =>
    refine (qF h).bind fun C o o' hl ho=>?_
    cases ho<;>first|exact zG|exact zd (ja (hl _ _ h) (.map _ Rows.empty)) fun _ _ _=>ze none_r
   | slc l c h =>
    cases l with
    | zero=>exact ze none_r
    | succ l =>
     cases d with
     | slice elem=>exact (qG T elem).bind fun C z z' hl hz=>zd (storeCells_r 0 (h.mono hl) (zeroCells_r hz.cells _).toList) fun _ _ _=>ze none_r
     | _=>exact zG
   | _=>cases d<;>exact zG
theorem close_r (hB:Based P B) (ts:Array TypeId) (t:TypeId) {a a':Array Value} (h:VsRel B a a'):SRel P (swap P fs) VR B (Builtin.close_ ts t a) (Builtin.close_ ts t a'):=by
 have hl:=h.toList
 obtain⟨l⟩:=a
 obtain⟨l'⟩:=a'
 simp only at hl
 unfold Builtin.close_
 cases hl with
 | nil=>exact zf
 | cons h1 hl =>
  cases hl with
  | cons _ _=>exact zf
  | nil =>
   have cv:=h1.case
   cases cv<;>first|exact zf|exact zC hB.handle _|skip
   rename_i r r' hr
   refine (qF hr).bind fun C o o' l1 ho=>?_
   cases ho<;>first|exact zf|skip
   rename_i hb
   refine ite_r (fun _=>qd (hB.mono l1).handle _) fun _=>?_
   exact zd (ja (l1 _ _ hr) (.chan _ _ _ _ _ hb)) fun _ _ _=>ze none_r
theorem arrayAt_r (hB:Based P B) (t:TypeId) {v v':Value} (h:VRel B v v'):SRel P (swap P fs) VR B (Instr.arrayAt t v) (Instr.arrayAt t v'):=by
 unfold Instr.arrayAt
 refine zm fun d _=>?_
 cases d with
 | array n e =>
  cases h<;>first|exact zf|skip
  rename_i ha
  exact ite_r (fun _=>zC hB.handle _) fun _=>ze (.pointer ha)
 | _=>exact zf
theorem panicnil_r (ho:B.out):SRel P (swap P fs) (Same Int) B Instr.panicnil Instr.panicnil:=by
 unfold Instr.panicnil
 refine SRel.env ho fun r=>?_
 cases r<;>first|exact zf|exact zN (ze rfl)
theorem panic_r (ho:B.out) (hB:Based P B) {v v':Value} (h:VRel B v v'):SRel P (swap P fs) VR B (Instr.panic v) (Instr.panic v'):=by
 unfold Instr.panic
 have hv:=h
 have cv:=h.case
 cases cv<;>first|exact zf|skip
 ·exact goPanic_r hv
 ·exact zd (panicnil_r ho) fun C n hl=>ite_r (fun _=>goPanic_r .nilIface) fun _=>zC (hB.mono hl).handle _
theorem typeAssert_r (T:TypesOk P.toTables) (_hB:Based P B) {v v':Value} (h:VRel B v v') (xt as:TypeId):SRel P (swap P fs) VR B (Instr.typeAssert v xt as true) (Instr.typeAssert v' xt as true):=by
 generalize hok:true=ok
 unfold Instr.typeAssert
 have holds:∀ (C:Ren) (x y:Value),VRel C x y→SRel P (swap P fs) VR C (pure (if ok then .tuple #[x,.bool true] else x)) (pure (if ok then .tuple #[y,.bool true] else y)):=by
  intro C x y h
  refine ze ?_
  show VRel C _ _
  split
  ·exact pair2 h (.bool _)
  ·exact h
 have fails:∀ (C:Ren) (s d:Option TypeId) (m:String),B.le C→SRel P (swap P fs) VR C (do if ok then pure (.tuple #[← zeroValue as,.bool false]) else runtimePanic (.typeAssertion s d as m)) (do if ok then pure (.tuple #[← zeroValue as,.bool false]) else runtimePanic (.typeAssertion s d as m)):=
  fun C s d m hl=>ite_r (fun _=>(qG T as).bind fun D z z' _ hz=>ze (pair2 hz (.bool _))) fun hn=>absurd hok.symm hn
 refine zm fun d _=>?_
 have hv:=h
 have cv:=h.case
 cases d with
 | interface want =>
  cases cv<;>first|exact zf|exact fails B _ _ _ (Ren.le.refl _)|skip
  rename_i t _ _ h
  refine qf fun i _=>?_
  cases Instr.missingMethod want i.methods with
  | none=>exact holds B _ _ hv
  | some m=>exact fails B _ _ _ (Ren.le.refl _)
 | _ =>
  cases cv<;>first|exact zf|exact fails B _ _ _ (Ren.le.refl _)|exact ite_r (fun _=>holds B _ _ (by assumption)) fun _=>fails B _ _ _ (Ren.le.refl _)
end
end
section
section
variable {P:Program} {fs:Array Func} {B:Ren}
theorem forInBytes_r {σ : Type} {f f':Value→σ→Sem (ForInStep σ)} (h:∀ C v v' s,VRel C v v'→SRel P (swap P fs) (Same _) C (f v s) (f' v' s)):∀ (l l':List Value) (s : σ) (B:Ren),LR (VRel B) l l'→SRel P (swap P fs) (Same σ) B (forIn l s f) (forIn l' s f')
 | _,_,s,B,.nil=>by simp only[List.forIn_nil];exact ze rfl
 | _,_,s,B,.cons hx hl=>by
  simp only[List.forIn_cons]
  refine zd (h B _ _ s hx) fun C r l1=>?_
  cases r with
  | done s=>exact ze rfl
  | yield s=>exact forInBytes_r h _ _ s C (hl.mono fun _ _=>VRel.mono l1)
theorem bytesToString_r {v v':Value} (h:VRel B v v'):SRel P (swap P fs) VR B (Conv.bytesToString v) (Conv.bytesToString v'):=by
 unfold Conv.bytesToString
 have cv:=h.case
 cases cv<;>first|exact zf|exact ze (.string _)|skip
 rename_i l c ha
 refine (loadCells_r l ha).bind fun C cs cs' _ hc=>?_
 rw[← Array.forIn_toList,← Array.forIn_toList]
 refine zd (forInBytes_r (fun D v v' s hv=>?_) _ _ _ C hc.toList) fun _ _ _=>ze (.string _)
 cases hv<;>first|exact zG|exact zf|skip
 rename_i k n
 cases k<;>first|exact zG|exact zf|exact ze rfl
theorem runesToString_r {v v':Value} (h:VRel B v v'):SRel P (swap P fs) VR B (Conv.runesToString v) (Conv.runesToString v'):=by
 unfold Conv.runesToString
 have cv:=h.case
 cases cv<;>first|exact zf|exact ze (.string _)|skip
 rename_i l c ha
 refine (loadCells_r l ha).bind fun C cs cs' _ hc=>?_
 rw[← Array.forIn_toList,← Array.forIn_toList]
 refine zd (forInBytes_r (fun D v v' s hv=>?_) _ _ _ C hc.toList) fun _ _ _=>ze (.string _)
 cases hv<;>first|exact zG|exact zf|skip
 rename_i k n
 cases k<;>first|exact zG|exact zf|exact ze rfl
theorem floatToInt_r (s:FloatKind) (b:Nat) (d:IntKind):SRel P (swap P fs) VR B (Conv.floatToInt s b d) (Conv.floatToInt s b d):=by
 unfold Conv.floatToInt
 have any:SRel P (swap P fs) VR B (do pure (.int d (d.wrap (← choose (.floatToInt s b d))))) (do pure (.int d (d.wrap (← choose (.floatToInt s b d))))):=zd (qS _) fun _ _ _=>ze (.int _ _)
 dsimp only
 cases (s.decode b).toInt .zero with
 | none=>exact any
 | some n=>exact ite_r (fun _=>ze (.int _ _)) fun _=>any
theorem complexToComplex_r (s:FloatKind) (x y:Nat) (d:FloatKind):SRel P (swap P fs) VR B (Conv.complexToComplex s x y d) (Conv.complexToComplex s x y d):=by
 unfold Conv.complexToComplex
 refine (floatToFloat_r s x d).bind fun C v v' _ h=>?_
 obtain⟨rfl,_⟩:=h
 cases v'<;>first|exact zf|skip
 refine (floatToFloat_r s y d).bind fun C v v' _ h=>?_
 obtain⟨rfl,_⟩:=h
 cases v'<;>first|exact zf|exact ze (.complex _ _ _)
def noUnsafe (P:Program) (s d:TypeId):Prop:=P.underlying s≠some .unsafePointer∧P.underlying d≠some .unsafePointer∧∀ e,P.underlying d≠some (.slice e)
theorem doomed_text (e:TypeId):Doomed P (do match ← underlying e with|.int .u8=>Conv.bytesToString (.tuple #[])|.int .i32=>Conv.runesToString (.tuple #[])|_=>stuck "Convert: a slice of what to string?"):=by
 refine .program ?_
 show Doomed P ((match P.underlying e with|some i=>pure i|none=>stuck "no such type") >>= _)
 cases P.underlying e with
 | none=>exact .halt trivial
 | some d=>cases d<;>first|exact .halt trivial|(rename_i k;cases k<;>exact .halt trivial)
theorem convert_r {s d':TypeId} (hn:noUnsafe P s d') {v v':Value} (h:VRel B v v'):SRel P (swap P fs) VR B (convert s d' v) (convert s d' v'):=by
 unfold convert
 refine zm fun ds hs=>zm fun dd hd=>?_
 have n1:ds≠.unsafePointer:=fun e=>hn.1 (by rw[hs,e])
 have n2:dd≠.unsafePointer:=fun e=>hn.2.1 (by rw[hd,e])
 have hv:=h
 have cv:=h.case
 cases dd with
 | unsafePointer=>exact absurd rfl n2
 | int k =>
  cases ds<;>first|exact absurd rfl n1|skip
  all_goals (cases cv<;>first|exact zf|exact zr|exact ze (.int _ _)|exact floatToInt_r _ _ _)
 | float k =>
  cases ds<;>first|exact absurd rfl n1|skip
  all_goals (cases cv<;>first|exact zf|exact zr|exact ze (.float _ _)|exact PV.vr (floatToFloat_r _ _ _))
 | complex k =>
  cases ds<;>first|exact absurd rfl n1|skip
  all_goals (cases cv<;>first|exact zf|exact zr|exact complexToComplex_r _ _ _ _)
 | string =>
  cases ds<;>first|exact absurd rfl n1|skip
  all_goals (cases cv<;>first|exact zf|exact zr|exact ze (.string _)|exact .doomed (doomed_text _)|skip)
  all_goals
   refine zm fun d _=>?_
   cases d<;>first|exact zf|skip
   rename_i k _
   cases k<;>first|exact zf|exact bytesToString_r hv|exact runesToString_r hv
 | slice e=>exact absurd hd (hn.2.2 e)
 | _ =>
  cases ds<;>first|exact absurd rfl n1|skip
  all_goals (cases cv<;>first|exact zf|exact zr)
end
end
end Go.Par
