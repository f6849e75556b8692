/- What the two left programs S and Sw have in common: the real program's tables, and its functions but for those that are refused: so a contract is walked once, for both. A region that .. -/
import Derived.Test.YtlgiofglcgbjgaaM22
import Derived.WalkKit
import Derived.Below
import Derived.ProofKit
import Derived.Deep.Draws
import Derived.Deep.AppendLies
import Derived.Deep.RegionHeld3
import Derived.WalkMore
import Derived.Laws.OwnMore
import Derived.LoopTactic
import Derived.WalkSpells
import Derived.WalkLawsBesides
import Derived.Outline
import Derived.Deep.QuietTactic
import Derived.BigQuiet
import Derived.BigGuardPart
import Derived.Deep.DeepCutAuto
import Derived.Lib.Hide
import Derived.Deep.LoopGhost
import Derived.Maps.AppendAt
import Derived.RegionTactic
import Derived.OwnWalk
import Derived.StillTailTactics
namespace Go.Gal
open Go Go.Par Go.Proofs
section
noncomputable def Pf (fs:Array Func):Program:={ Try.prog with funcs:=fs }
class Like (fs:Array Func):Prop where
 funcs:∀ i fn,spW i=false→Try.prog.funcs[i]?=some fn→fn.body.isNone=false→fs[i]?=some fn
theorem JW {sp:Nat→Bool} {st:Nat→Func→Code} {i:Nat} {fn:Func} (h:sp i=false) (hb:fn.body.isNone=false):modF sp st i fn=fn:=by
 unfold modF
 rw[hb,h]
 rfl
instance like_S:Like S.funcs where
 funcs i fn h hf hb:=by
  have hs:spS i=false:=by
   simp only[spW,spS,Bool.or_eq_false_iff] at h ⊢
   simp[h]
  rw[qi,hf]
  exact congrArg some (JW hs hb)
instance like_Sw:Like Sw.funcs where
 funcs i fn h hf hb:=by
  rw[qi,hf]
  exact congrArg some (JW h hb)
section
theorem zed (R:Program) (sp:Nat→Bool) (st:Nat→Func→Code):leftP R sp st={ R with funcs:=(leftP R sp st).funcs }:=rfl
theorem pf_S:Pf S.funcs=S:=by unfold Pf;exact (zed Try.prog spS stubS).symm
theorem pf_Sw:Pf Sw.funcs=Sw:=by unfold Pf;exact (zed Try.prog spW stubW).symm
variable {fs:Array Func}
theorem QV (t:TypeId):(Pf fs).info? t=Try.prog.info? t:=rfl
@[simp] theorem like_types:(Pf fs).toTables.types=Try.prog.toTables.types:=rfl
@[simp] theorem like_under (t:TypeId):(Pf fs).underlying t=Try.prog.underlying t:=by
 unfold Program.underlying
 simp only[QV]
theorem zez (Q:Program) (t:TypeId) (w:World):(typeInfo t).run Q w=match Q.info? t with|some i=>.ok i w|none=>(stuck (α:=TypeInfo) "no such type").run Q w:=by
 show (match Q.info? t with|some i=>(pure i:Sem TypeInfo)|none=>stuck "no such type").run Q w=_
 cases Q.info? t<;>rfl
@[simp] theorem like_typeInfo (t:TypeId) (w:World):(typeInfo t).run (Pf fs) w=(typeInfo t).run Try.prog w:=by
 rw[zez,zez,QV]
 cases Try.prog.info? t<;>rfl
theorem zey (Q:Program) (t:TypeId) (w:World):(underlying t).run Q w=match Q.underlying t with|some i=>.ok i w|none=>(stuck (α:=TypeDesc) "no such type").run Q w:=by
 show (match Q.underlying t with|some i=>(pure i:Sem TypeDesc)|none=>stuck "no such type").run Q w=_
 cases Q.underlying t<;>rfl
@[simp] theorem like_underlying (t:TypeId) (w:World):(underlying t).run (Pf fs) w=(underlying t).run Try.prog w:=by
 rw[zey,zey,like_under]
 cases Try.prog.underlying t<;>rfl
theorem zdR (Q:Program) (t:TypeId) (w:World):(Go.sizeOf t).run Q w=match (typeInfo t).run Q w with|.ok i w=>.ok i.size w|.halt h w=>.halt h w:=by
 unfold Go.sizeOf
 rw[Sem.run_bind]
 cases (typeInfo t).run Q w<;>rfl
@[simp] theorem like_sizeOf (t:TypeId) (w:World):(Go.sizeOf t).run (Pf fs) w=(Go.sizeOf t).run Try.prog w:=by
 rw[zdR,zdR,like_typeInfo]
theorem zdP (Q:Program) (t:TypeId) (w:World):(zeroValue t).run Q w=match (typeInfo t).run Q w with|.ok i w=>(match i.zero with|some v=>.ok v w|none=>(unsupported (α:=Value) (.resourceLimit "a value of more than 2^22 cells")).run Q w)|.halt h w=>.halt h w:=by
 unfold zeroValue
 rw[Sem.run_bind]
 cases (typeInfo t).run Q w with
 | halt h w=>rfl
 | ok i w=>show (match i.zero with|some v=>(pure v:Sem Value)|none=>unsupported (.resourceLimit "a value of more than 2^22 cells")).run Q w=(match i.zero with|some v=>.ok v w|none=>(unsupported (α:=Value) (.resourceLimit "a value of more than 2^22 cells")).run Q w);cases i.zero<;>rfl
theorem un_run (Q Q':Program) (w:World) (r):(unsupported (α:=Value) r).run Q w=(unsupported (α:=Value) r).run Q' w:=rfl
@[simp] theorem like_zero (t:TypeId) (w:World):(zeroValue t).run (Pf fs) w=(zeroValue t).run Try.prog w:=by
 rw[zdP,zdP,like_typeInfo]
 simp only[un_run (Pf fs) Try.prog]
theorem zdU (Q:Program) (t:TypeId) (w:World):(isAgg t).run Q w=match (underlying t).run Q w with|.ok i w=>.ok (match i with|.struct _|.array _ _=>true|_=>false) w|.halt h w=>.halt h w:=by
 unfold isAgg
 rw[Sem.run_bind]
 cases (underlying t).run Q w with
 | halt h w=>rfl
 | ok i w=>cases i<;>rfl
@[simp] theorem like_isAgg (t:TypeId) (w:World):(isAgg t).run (Pf fs) w=(isAgg t).run Try.prog w:=by
 rw[zdU,zdU,like_underlying]
theorem zr {f:FuncId} {fn:Func} (h:fs[f]?=some fn) (hb:fn.body.isNone=false) (hn:(fn.name == "runtime.NumGoroutine")=false) (args:Array Value) (w:World) :
  (callFunc f args).run (Pf fs) w=.ok (.enter f args) w:=by
 unfold callFunc
 rw[Sem.run_bind]
 show Sem.run (Pf fs) (match fs[f]? with|none=>_|some fn=>_) w=_
 simp only[h,hn,hb]
 rfl
variable [Like fs]
theorem LK.func6:(Pf fs).funcs[6]?=some Try.f6:=Like.funcs (fs:=fs) 6 _ rfl Try.func6 rfl
theorem LK.func17:(Pf fs).funcs[17]?=some Try.f17:=Like.funcs (fs:=fs) 17 _ rfl Try.func17 rfl
@[simp] theorem LK.call17 (args:Array Value) (w:World):(callFunc 17 args).run (Pf fs) w=.ok (.enter 17 args) w:=zr LK.func17 rfl rfl args w
theorem LK.func18:(Pf fs).funcs[18]?=some Try.f18:=Like.funcs (fs:=fs) 18 _ rfl Try.func18 rfl
@[simp] theorem LK.call18 (args:Array Value) (w:World):(callFunc 18 args).run (Pf fs) w=.ok (.enter 18 args) w:=zr LK.func18 rfl rfl args w
theorem LK.func19:(Pf fs).funcs[19]?=some Try.f19:=Like.funcs (fs:=fs) 19 _ rfl Try.func19 rfl
@[simp] theorem LK.call19 (args:Array Value) (w:World):(callFunc 19 args).run (Pf fs) w=.ok (.enter 19 args) w:=zr LK.func19 rfl rfl args w
theorem LK.func22:(Pf fs).funcs[22]?=some Try.f22:=Like.funcs (fs:=fs) 22 _ rfl Try.func22 rfl
@[simp] theorem LK.call22 (args:Array Value) (w:World):(callFunc 22 args).run (Pf fs) w=.ok (.enter 22 args) w:=zr LK.func22 rfl rfl args w
theorem LK.func23:(Pf fs).funcs[23]?=some Try.f23:=Like.funcs (fs:=fs) 23 _ rfl Try.func23 rfl
@[simp] theorem LK.call23 (args:Array Value) (w:World):(callFunc 23 args).run (Pf fs) w=.ok (.enter 23 args) w:=zr LK.func23 rfl rfl args w
theorem LK.func24:(Pf fs).funcs[24]?=some Try.f24:=Like.funcs (fs:=fs) 24 _ rfl Try.func24 rfl
@[simp] theorem LK.call24 (args:Array Value) (w:World):(callFunc 24 args).run (Pf fs) w=.ok (.enter 24 args) w:=zr LK.func24 rfl rfl args w
theorem LK.func26:(Pf fs).funcs[26]?=some Try.f26:=Like.funcs (fs:=fs) 26 _ rfl Try.func26 rfl
@[simp] theorem LK.call26 (args:Array Value) (w:World):(callFunc 26 args).run (Pf fs) w=.ok (.enter 26 args) w:=zr LK.func26 rfl rfl args w
theorem LK.func27:(Pf fs).funcs[27]?=some Try.f27:=Like.funcs (fs:=fs) 27 _ rfl Try.func27 rfl
@[simp] theorem LK.call27 (args:Array Value) (w:World):(callFunc 27 args).run (Pf fs) w=.ok (.enter 27 args) w:=zr LK.func27 rfl rfl args w
theorem LK.func28:(Pf fs).funcs[28]?=some Try.f28:=Like.funcs (fs:=fs) 28 _ rfl Try.func28 rfl
@[simp] theorem LK.call28 (args:Array Value) (w:World):(callFunc 28 args).run (Pf fs) w=.ok (.enter 28 args) w:=zr LK.func28 rfl rfl args w
theorem LK.func29:(Pf fs).funcs[29]?=some Try.f29:=Like.funcs (fs:=fs) 29 _ rfl Try.func29 rfl
@[simp] theorem LK.call29 (args:Array Value) (w:World):(callFunc 29 args).run (Pf fs) w=.ok (.enter 29 args) w:=zr LK.func29 rfl rfl args w
theorem LK.func32:(Pf fs).funcs[32]?=some Try.f32:=Like.funcs (fs:=fs) 32 _ rfl Try.func32 rfl
@[simp] theorem LK.call32 (args:Array Value) (w:World):(callFunc 32 args).run (Pf fs) w=.ok (.enter 32 args) w:=zr LK.func32 rfl rfl args w
theorem LK.func33:(Pf fs).funcs[33]?=some Try.f33:=Like.funcs (fs:=fs) 33 _ rfl Try.func33 rfl
@[simp] theorem LK.call33 (args:Array Value) (w:World):(callFunc 33 args).run (Pf fs) w=.ok (.enter 33 args) w:=zr LK.func33 rfl rfl args w
theorem LK.func34:(Pf fs).funcs[34]?=some Try.f34:=Like.funcs (fs:=fs) 34 _ rfl Try.func34 rfl
@[simp] theorem LK.call34 (args:Array Value) (w:World):(callFunc 34 args).run (Pf fs) w=.ok (.enter 34 args) w:=zr LK.func34 rfl rfl args w
theorem LK.func35:(Pf fs).funcs[35]?=some Try.f35:=Like.funcs (fs:=fs) 35 _ rfl Try.func35 rfl
@[simp] theorem LK.call35 (args:Array Value) (w:World):(callFunc 35 args).run (Pf fs) w=.ok (.enter 35 args) w:=zr LK.func35 rfl rfl args w
theorem LK.func36:(Pf fs).funcs[36]?=some Try.f36:=Like.funcs (fs:=fs) 36 _ rfl Try.func36 rfl
@[simp] theorem LK.call36 (args:Array Value) (w:World):(callFunc 36 args).run (Pf fs) w=.ok (.enter 36 args) w:=zr LK.func36 rfl rfl args w
theorem LK.func37:(Pf fs).funcs[37]?=some Try.f37:=Like.funcs (fs:=fs) 37 _ rfl Try.func37 rfl
@[simp] theorem LK.call37 (args:Array Value) (w:World):(callFunc 37 args).run (Pf fs) w=.ok (.enter 37 args) w:=zr LK.func37 rfl rfl args w
theorem LK.func38:(Pf fs).funcs[38]?=some Try.f38:=Like.funcs (fs:=fs) 38 _ rfl Try.func38 rfl
@[simp] theorem LK.call38 (args:Array Value) (w:World):(callFunc 38 args).run (Pf fs) w=.ok (.enter 38 args) w:=zr LK.func38 rfl rfl args w
theorem LK.func39:(Pf fs).funcs[39]?=some Try.f39:=Like.funcs (fs:=fs) 39 _ rfl Try.func39 rfl
@[simp] theorem LK.call39 (args:Array Value) (w:World):(callFunc 39 args).run (Pf fs) w=.ok (.enter 39 args) w:=zr LK.func39 rfl rfl args w
theorem LK.func40:(Pf fs).funcs[40]?=some Try.f40:=Like.funcs (fs:=fs) 40 _ rfl Try.func40 rfl
@[simp] theorem LK.call40 (args:Array Value) (w:World):(callFunc 40 args).run (Pf fs) w=.ok (.enter 40 args) w:=zr LK.func40 rfl rfl args w
theorem LK.func51:(Pf fs).funcs[51]?=some Try.f51:=Like.funcs (fs:=fs) 51 _ rfl Try.func51 rfl
@[simp] theorem LK.call51 (args:Array Value) (w:World):(callFunc 51 args).run (Pf fs) w=.ok (.enter 51 args) w:=zr LK.func51 rfl rfl args w
theorem LK.func53:(Pf fs).funcs[53]?=some Try.f53:=Like.funcs (fs:=fs) 53 _ rfl Try.func53 rfl
@[simp] theorem LK.call53 (args:Array Value) (w:World):(callFunc 53 args).run (Pf fs) w=.ok (.enter 53 args) w:=zr LK.func53 rfl rfl args w
theorem LK.func59:(Pf fs).funcs[59]?=some Try.f59:=Like.funcs (fs:=fs) 59 _ rfl Try.func59 rfl
@[simp] theorem LK.call59 (args:Array Value) (w:World):(callFunc 59 args).run (Pf fs) w=.ok (.enter 59 args) w:=zr LK.func59 rfl rfl args w
theorem LK.func64:(Pf fs).funcs[64]?=some Try.f64:=Like.funcs (fs:=fs) 64 _ rfl Try.func64 rfl
@[simp] theorem LK.call64 (args:Array Value) (w:World):(callFunc 64 args).run (Pf fs) w=.ok (.enter 64 args) w:=zr LK.func64 rfl rfl args w
theorem LK.func65:(Pf fs).funcs[65]?=some Try.f65:=Like.funcs (fs:=fs) 65 _ rfl Try.func65 rfl
@[simp] theorem LK.call65 (args:Array Value) (w:World):(callFunc 65 args).run (Pf fs) w=.ok (.enter 65 args) w:=zr LK.func65 rfl rfl args w
theorem LK.func66:(Pf fs).funcs[66]?=some Try.f66:=Like.funcs (fs:=fs) 66 _ rfl Try.func66 rfl
@[simp] theorem LK.call66 (args:Array Value) (w:World):(callFunc 66 args).run (Pf fs) w=.ok (.enter 66 args) w:=zr LK.func66 rfl rfl args w
theorem LK.func68:(Pf fs).funcs[68]?=some Try.f68:=Like.funcs (fs:=fs) 68 _ rfl Try.func68 rfl
@[simp] theorem LK.call68 (args:Array Value) (w:World):(callFunc 68 args).run (Pf fs) w=.ok (.enter 68 args) w:=zr LK.func68 rfl rfl args w
theorem LK.func69:(Pf fs).funcs[69]?=some Try.f69:=Like.funcs (fs:=fs) 69 _ rfl Try.func69 rfl
@[simp] theorem LK.call69 (args:Array Value) (w:World):(callFunc 69 args).run (Pf fs) w=.ok (.enter 69 args) w:=zr LK.func69 rfl rfl args w
theorem LK.func70:(Pf fs).funcs[70]?=some Try.f70:=Like.funcs (fs:=fs) 70 _ rfl Try.func70 rfl
@[simp] theorem LK.call70 (args:Array Value) (w:World):(callFunc 70 args).run (Pf fs) w=.ok (.enter 70 args) w:=zr LK.func70 rfl rfl args w
theorem LK.func71:(Pf fs).funcs[71]?=some Try.f71:=Like.funcs (fs:=fs) 71 _ rfl Try.func71 rfl
@[simp] theorem LK.call71 (args:Array Value) (w:World):(callFunc 71 args).run (Pf fs) w=.ok (.enter 71 args) w:=zr LK.func71 rfl rfl args w
theorem LK.func72:(Pf fs).funcs[72]?=some Try.f72:=Like.funcs (fs:=fs) 72 _ rfl Try.func72 rfl
@[simp] theorem LK.call72 (args:Array Value) (w:World):(callFunc 72 args).run (Pf fs) w=.ok (.enter 72 args) w:=zr LK.func72 rfl rfl args w
theorem LK.func73:(Pf fs).funcs[73]?=some Try.f73:=Like.funcs (fs:=fs) 73 _ rfl Try.func73 rfl
@[simp] theorem LK.call73 (args:Array Value) (w:World):(callFunc 73 args).run (Pf fs) w=.ok (.enter 73 args) w:=zr LK.func73 rfl rfl args w
theorem LK.func75:(Pf fs).funcs[75]?=some Try.f75:=Like.funcs (fs:=fs) 75 _ rfl Try.func75 rfl
@[simp] theorem LK.call75 (args:Array Value) (w:World):(callFunc 75 args).run (Pf fs) w=.ok (.enter 75 args) w:=zr LK.func75 rfl rfl args w
theorem LK.func76:(Pf fs).funcs[76]?=some Try.f76:=Like.funcs (fs:=fs) 76 _ rfl Try.func76 rfl
@[simp] theorem LK.call76 (args:Array Value) (w:World):(callFunc 76 args).run (Pf fs) w=.ok (.enter 76 args) w:=zr LK.func76 rfl rfl args w
theorem LK.func77:(Pf fs).funcs[77]?=some Try.f77:=Like.funcs (fs:=fs) 77 _ rfl Try.func77 rfl
@[simp] theorem LK.call77 (args:Array Value) (w:World):(callFunc 77 args).run (Pf fs) w=.ok (.enter 77 args) w:=zr LK.func77 rfl rfl args w
theorem LK.func78:(Pf fs).funcs[78]?=some Try.f78:=Like.funcs (fs:=fs) 78 _ rfl Try.func78 rfl
@[simp] theorem LK.call78 (args:Array Value) (w:World):(callFunc 78 args).run (Pf fs) w=.ok (.enter 78 args) w:=zr LK.func78 rfl rfl args w
theorem LK.func79:(Pf fs).funcs[79]?=some Try.f79:=Like.funcs (fs:=fs) 79 _ rfl Try.func79 rfl
@[simp] theorem LK.call79 (args:Array Value) (w:World):(callFunc 79 args).run (Pf fs) w=.ok (.enter 79 args) w:=zr LK.func79 rfl rfl args w
theorem LK.func80:(Pf fs).funcs[80]?=some Try.f80:=Like.funcs (fs:=fs) 80 _ rfl Try.func80 rfl
@[simp] theorem LK.call80 (args:Array Value) (w:World):(callFunc 80 args).run (Pf fs) w=.ok (.enter 80 args) w:=zr LK.func80 rfl rfl args w
theorem LK.func81:(Pf fs).funcs[81]?=some Try.f81:=Like.funcs (fs:=fs) 81 _ rfl Try.func81 rfl
@[simp] theorem LK.call81 (args:Array Value) (w:World):(callFunc 81 args).run (Pf fs) w=.ok (.enter 81 args) w:=zr LK.func81 rfl rfl args w
theorem LK.func82:(Pf fs).funcs[82]?=some Try.f82:=Like.funcs (fs:=fs) 82 _ rfl Try.func82 rfl
@[simp] theorem LK.call82 (args:Array Value) (w:World):(callFunc 82 args).run (Pf fs) w=.ok (.enter 82 args) w:=zr LK.func82 rfl rfl args w
theorem LK.func83:(Pf fs).funcs[83]?=some Try.f83:=Like.funcs (fs:=fs) 83 _ rfl Try.func83 rfl
@[simp] theorem LK.call83 (args:Array Value) (w:World):(callFunc 83 args).run (Pf fs) w=.ok (.enter 83 args) w:=zr LK.func83 rfl rfl args w
theorem LK.func90:(Pf fs).funcs[90]?=some Try.f90:=Like.funcs (fs:=fs) 90 _ rfl Try.func90 rfl
@[simp] theorem LK.call90 (args:Array Value) (w:World):(callFunc 90 args).run (Pf fs) w=.ok (.enter 90 args) w:=zr LK.func90 rfl rfl args w
theorem LK.func91:(Pf fs).funcs[91]?=some Try.f91:=Like.funcs (fs:=fs) 91 _ rfl Try.func91 rfl
@[simp] theorem LK.call91 (args:Array Value) (w:World):(callFunc 91 args).run (Pf fs) w=.ok (.enter 91 args) w:=zr LK.func91 rfl rfl args w
theorem LK.func93:(Pf fs).funcs[93]?=some Try.f93:=Like.funcs (fs:=fs) 93 _ rfl Try.func93 rfl
@[simp] theorem LK.call93 (args:Array Value) (w:World):(callFunc 93 args).run (Pf fs) w=.ok (.enter 93 args) w:=zr LK.func93 rfl rfl args w
theorem LK.func96:(Pf fs).funcs[96]?=some Try.f96:=Like.funcs (fs:=fs) 96 _ rfl Try.func96 rfl
@[simp] theorem LK.call96 (args:Array Value) (w:World):(callFunc 96 args).run (Pf fs) w=.ok (.enter 96 args) w:=zr LK.func96 rfl rfl args w
theorem LK.func97:(Pf fs).funcs[97]?=some Try.f97:=Like.funcs (fs:=fs) 97 _ rfl Try.func97 rfl
@[simp] theorem LK.call97 (args:Array Value) (w:World):(callFunc 97 args).run (Pf fs) w=.ok (.enter 97 args) w:=zr LK.func97 rfl rfl args w
theorem LK.func98:(Pf fs).funcs[98]?=some Try.f98:=Like.funcs (fs:=fs) 98 _ rfl Try.func98 rfl
@[simp] theorem LK.call98 (args:Array Value) (w:World):(callFunc 98 args).run (Pf fs) w=.ok (.enter 98 args) w:=zr LK.func98 rfl rfl args w
theorem LK.func99:(Pf fs).funcs[99]?=some Try.f99:=Like.funcs (fs:=fs) 99 _ rfl Try.func99 rfl
@[simp] theorem LK.call99 (args:Array Value) (w:World):(callFunc 99 args).run (Pf fs) w=.ok (.enter 99 args) w:=zr LK.func99 rfl rfl args w
theorem LK.func100:(Pf fs).funcs[100]?=some Try.f100:=Like.funcs (fs:=fs) 100 _ rfl Try.func100 rfl
@[simp] theorem LK.call100 (args:Array Value) (w:World):(callFunc 100 args).run (Pf fs) w=.ok (.enter 100 args) w:=zr LK.func100 rfl rfl args w
theorem LK.func101:(Pf fs).funcs[101]?=some Try.f101:=Like.funcs (fs:=fs) 101 _ rfl Try.func101 rfl
@[simp] theorem LK.call101 (args:Array Value) (w:World):(callFunc 101 args).run (Pf fs) w=.ok (.enter 101 args) w:=zr LK.func101 rfl rfl args w
theorem LK.func102:(Pf fs).funcs[102]?=some Try.f102:=Like.funcs (fs:=fs) 102 _ rfl Try.func102 rfl
@[simp] theorem LK.call102 (args:Array Value) (w:World):(callFunc 102 args).run (Pf fs) w=.ok (.enter 102 args) w:=zr LK.func102 rfl rfl args w
theorem LK.func103:(Pf fs).funcs[103]?=some Try.f103:=Like.funcs (fs:=fs) 103 _ rfl Try.func103 rfl
@[simp] theorem LK.call103 (args:Array Value) (w:World):(callFunc 103 args).run (Pf fs) w=.ok (.enter 103 args) w:=zr LK.func103 rfl rfl args w
theorem LK.func107:(Pf fs).funcs[107]?=some Try.f107:=Like.funcs (fs:=fs) 107 _ rfl Try.func107 rfl
@[simp] theorem LK.call107 (args:Array Value) (w:World):(callFunc 107 args).run (Pf fs) w=.ok (.enter 107 args) w:=zr LK.func107 rfl rfl args w
theorem LK.func112:(Pf fs).funcs[112]?=some Try.f112:=Like.funcs (fs:=fs) 112 _ rfl Try.func112 rfl
@[simp] theorem LK.call112 (args:Array Value) (w:World):(callFunc 112 args).run (Pf fs) w=.ok (.enter 112 args) w:=zr LK.func112 rfl rfl args w
theorem LK.func113:(Pf fs).funcs[113]?=some Try.f113:=Like.funcs (fs:=fs) 113 _ rfl Try.func113 rfl
@[simp] theorem LK.call113 (args:Array Value) (w:World):(callFunc 113 args).run (Pf fs) w=.ok (.enter 113 args) w:=zr LK.func113 rfl rfl args w
theorem LK.func127:(Pf fs).funcs[127]?=some Try.f127:=Like.funcs (fs:=fs) 127 _ rfl Try.func127 rfl
@[simp] theorem LK.call127 (args:Array Value) (w:World):(callFunc 127 args).run (Pf fs) w=.ok (.enter 127 args) w:=zr LK.func127 rfl rfl args w
theorem LK.func134:(Pf fs).funcs[134]?=some Try.f134:=Like.funcs (fs:=fs) 134 _ rfl Try.func134 rfl
@[simp] theorem LK.call134 (args:Array Value) (w:World):(callFunc 134 args).run (Pf fs) w=.ok (.enter 134 args) w:=zr LK.func134 rfl rfl args w
end
end
end Go.Gal
namespace Go.Gal
open Go.RowKit
section
def waits (md:Region.Mode) (ops:Array Oper) (last i:Nat):Bool:=((ops[last]?).map fun o=>o.after.any fun e=>Region.binds md e&&e.on==i).getD false
section
variable {P:Program} {ops:Array Oper} {Q:Exit→Act→World→Prop} {md:Region.Mode} {S:World→Prop} {late:List Nat}
def qB (P:Program) (md:Region.Mode) (ops:Array Oper) (Q:Exit→Act→World→Prop) (S:World→Prop) (late:List Nat):Nat→Array Bool→Act→World→Prop
 | 0,listed,a,w=>Region.ready md ops listed=[]∧Q .normal a w
 | fuel+1,listed,a,w =>
  (Region.ready md ops listed=[]→Q .normal a w) ∧
  ∀ i∈Region.ready md ops listed,wpOp P ops Q i (fun a' w'=>(i ∉ late→S w→S w')∧qB P md ops Q S late fuel (listed.setIfInBounds i true) a' w') a w
theorem zaf:∀ (fuel:Nat) (listed:Array Bool) (a:Act) (w:World),qB P md ops Q S late fuel listed a w→wpAny P md ops Q fuel listed a w
 | 0,_,_,_,h=>h
 | fuel+1,_,_,_,h=>⟨h.1,fun i hi=>wpOp_mono (fun a' w' h'=>zaf fuel _ a' w' h'.2) (h.2 i hi)⟩
theorem wpAnyL_first {i:Nat} {oi:Oper} {v:Value} (hi:ops[i]?=some oi) (hsel:∀ (j:Nat) (o:Oper) cs b,ops[j]?=some o→o.op≠.select cs b)
  (hQ:∀ c a w,Q (.panic c) (a.put oi.dst v) w→Q (.panic c) a w) (hw:(late.all fun l=>waits md ops l i)=true) (hne:i ∉ late) :
  ∀ (fuel:Nat) (listed:Array Bool) (a:Act) (w:World),
   (∀ j oj,ops[j]?=some oj→j≠i→listed.getD j true=false→(∀ e∈oj.after,Region.binds md e=true→e.on≠i)→oi.apart ops oj=true) →
   i∈Region.ready md ops listed→YieldsIf P ops S oi v a→S w →
   qB P md ops Q S late fuel (listed.setIfInBounds i true) (a.put oi.dst v) w→qB P md ops Q S late (fuel+1) listed a w:=by
 intro fuel
 induction fuel with
 | zero =>
  intro listed a w _ hr hy hS H
  refine⟨fun h=>(by rw[h] at hr;cases hr),fun j hj=>?_⟩
  by_cases hji:j=i
  ·subst hji;exact hy.wpOp hi hS ⟨fun _ _=>hS,H⟩
  ·have:=ready_mono hj hji
   rw[H.1] at this
   cases this
 | succ fuel ih =>
  intro listed a w hfree hr hy hS H
  refine⟨fun h=>(by rw[h] at hr;cases hr),fun j hj=>?_⟩
  by_cases hji:j=i
  ·subst hji;exact hy.wpOp hi hS ⟨fun _ _=>hS,H⟩
  ·have h1:=H.2 j (ready_mono hj hji)
   obtain⟨hjun,oj,hoj,hall⟩:=mem_ready.1 hj
   have hnot:∀ e∈oj.after,Region.binds md e=true→e.on≠i:=fun e he hb heq=>by
    have h1:=hall e he hb
    have h0:=(mem_ready.1 hr).1
    rw[heq] at h1
    rcases Nat.lt_or_ge i listed.size with h'|h'
    ·simp[h'] at h0 h1;rw[h0] at h1;cases h1
    ·simp[Array.getElem?_eq_none h'] at h1
   have hjl:j ∉ late:=by
    intro e
    have hw:=List.all_eq_true.1 hw j e
    simp only[waits,hoj,Option.map_some,Option.getD_some] at hw
    obtain⟨e,he,hb⟩:=Array.any_eq_true'.1 hw
    simp only[Bool.and_eq_true,beq_iff_eq] at hb
    exact hnot e he hb.1 hb.2
   have h2:=wpOp_putIf hoj (hfree j oj hoj hji hjun hnot) (fun cs b=>hsel i oi cs b hi) (fun cs b=>hsel j oj cs b hoj) hQ hy h1
   have hfree':∀ k ok,ops[k]?=some ok→k≠i→(listed.setIfInBounds j true).getD k true=false →
     (∀ e∈ok.after,Region.binds md e=true→e.on≠i)→oi.apart ops ok=true:=fun k ok hk hki hun hno=>by
    refine hfree k ok hk hki ?_ hno
    by_cases hjk:j=k
    ·subst hjk;exact hjun
    ·rw[getD_set_ne true hjk] at hun;exact hun
   refine wpOp_mono (fun a' w' h3=>⟨fun _=>h3.2.1 hjl,ih (listed.setIfInBounds j true) a' w' hfree' (ready_mono hr (Ne.symm hji)) h3.1 (h3.2.1 hjl hS) ?_⟩) h2
   rw[Array.setIfInBounds_comm _ _ hji]
   exact h3.2.2
theorem wpAnyL_firstP {i:Nat} {oi:Oper} {v:Value} (hi:ops[i]?=some oi) (hsel:∀ (j:Nat) (o:Oper) cs b,ops[j]?=some o→o.op≠.select cs b)
  (hQ:∀ c a w,Q (.panic c) (a.put oi.dst v) w→Q (.panic c) a w) :
  ∀ (fuel:Nat) (listed:Array Bool) (a:Act) (w:World),
   (∀ j oj,ops[j]?=some oj→j≠i→listed.getD j true=false→(∀ e∈oj.after,Region.binds md e=true→e.on≠i)→oi.apart ops oj=true) →
   i∈Region.ready md ops listed→YieldsIf P ops (fun _=>True) oi v a →
   qB P md ops Q S late fuel (listed.setIfInBounds i true) (a.put oi.dst v) w→qB P md ops Q S late (fuel+1) listed a w:=by
 intro fuel
 induction fuel with
 | zero =>
  intro listed a w _ hr hy H
  refine⟨fun h=>(by rw[h] at hr;cases hr),fun j hj=>?_⟩
  by_cases hji:j=i
  ·subst hji;exact hy.wpOp hi trivial ⟨fun _ hS=>hS,H⟩
  ·have:=ready_mono hj hji
   rw[H.1] at this
   cases this
 | succ fuel ih =>
  intro listed a w hfree hr hy H
  refine⟨fun h=>(by rw[h] at hr;cases hr),fun j hj=>?_⟩
  by_cases hji:j=i
  ·subst hji;exact hy.wpOp hi trivial ⟨fun _ hS=>hS,H⟩
  ·have h1:=H.2 j (ready_mono hj hji)
   obtain⟨hjun,oj,hoj,hall⟩:=mem_ready.1 hj
   have hnot:∀ e∈oj.after,Region.binds md e=true→e.on≠i:=fun e he hb heq=>by
    have h1:=hall e he hb
    have h0:=(mem_ready.1 hr).1
    rw[heq] at h1
    rcases Nat.lt_or_ge i listed.size with h'|h'
    ·simp[h'] at h0 h1;rw[h0] at h1;cases h1
    ·simp[Array.getElem?_eq_none h'] at h1
   have h2:=wpOp_putIf hoj (hfree j oj hoj hji hjun hnot) (fun cs b=>hsel i oi cs b hi) (fun cs b=>hsel j oj cs b hoj) hQ hy h1
   have hfree':∀ k ok,ops[k]?=some ok→k≠i→(listed.setIfInBounds j true).getD k true=false →
     (∀ e∈ok.after,Region.binds md e=true→e.on≠i)→oi.apart ops ok=true:=fun k ok hk hki hun hno=>by
    refine hfree k ok hk hki ?_ hno
    by_cases hjk:j=k
    ·subst hjk;exact hjun
    ·rw[getD_set_ne true hjk] at hun;exact hun
   refine wpOp_mono (fun a' w' h3=>⟨h3.2.1,ih (listed.setIfInBounds j true) a' w' hfree' (ready_mono hr (Ne.symm hji)) h3.1 ?_⟩) h2
   rw[Array.setIfInBounds_comm _ _ hji]
   exact h3.2.2
theorem wpAnyL_pure {i:Nat} {oi:Oper} {v:Value} {fuel:Nat} {listed:Array Bool} {a:Act} {w:World} (hi:ops[i]?=some oi)
  (hs:Region.noSelect ops=true) (hf:Region.free md ops listed i=true) (hr:(Region.ready md ops listed).contains i=true)
  (hQ:∀ c a w,Q (.panic c) (a.put oi.dst v) w→Q (.panic c) a w) (hy:YieldsIf P ops (fun _=>True) oi v a)
  (h:qB P md ops Q S late fuel (listed.setIfInBounds i true) (a.put oi.dst v) w):qB P md ops Q S late (fuel+1) listed a w:=
 wpAnyL_firstP hi (Region.noSelect_spec hs) hQ fuel listed a w (Region.free_spec hi hf) (by simpa using hr) hy h
theorem wpAnyL_take {i:Nat} {oi:Oper} {v:Value} {fuel:Nat} {listed:Array Bool} {a:Act} {w:World} (hi:ops[i]?=some oi)
  (hs:Region.noSelect ops=true) (hf:Region.free md ops listed i=true) (hr:(Region.ready md ops listed).contains i=true) (hwt:(late.all fun l=>waits md ops l i)=true) (hne:late.contains i=false)
  (hQ:∀ c a w,Q (.panic c) (a.put oi.dst v) w→Q (.panic c) a w) (hS:S w) (hy:YieldsIf P ops S oi v a)
  (h:qB P md ops Q S late fuel (listed.setIfInBounds i true) (a.put oi.dst v) w):qB P md ops Q S late (fuel+1) listed a w:=
 wpAnyL_first hi (Region.noSelect_spec hs) hQ hwt (by simpa using hne) fuel listed a w (Region.free_spec hi hf) (by simpa using hr) hy hS h
theorem zh (i:Nat) (v:Value) {oi:Oper} {fuel:Nat} {listed:Array Bool} {a:Act} {w:World} (hi:ops[i]?=some oi) (hy:∀ w,True→(execOp a.eval oi).run P w=.ok (.value v) w)
  (h:qB P md ops Q S late fuel (listed.setIfInBounds i true) (a.put oi.dst v) w) (hs:Region.noSelect ops=true:=by kernel_rfl) (hf:Region.free md ops listed i=true:=by kernel_rfl) (hr:(Region.ready md ops listed).contains i=true:=by kernel_rfl)
  (hw:Region.wanted oi (yielded ops a.tmps)=true:=by rfl) (hQ:∀ c a w,Q (.panic c) (a.put oi.dst v) w→Q (.panic c) a w:=by exact fun _ _ _ h=>h):qB P md ops Q S late (fuel+1) listed a w:=
 wpAnyL_pure hi hs hf hr hQ (.inl ⟨hw,hy⟩) h
theorem zx (i:Nat) (v:Value) {oi:Oper} {fuel:Nat} {listed:Array Bool} {a:Act} {w:World} (hi:ops[i]?=some oi) (hS:S w) (hy:∀ w,S w→(execOp a.eval oi).run P w=.ok (.value v) w)
  (h:qB P md ops Q S late fuel (listed.setIfInBounds i true) (a.put oi.dst v) w) (hs:Region.noSelect ops=true:=by kernel_rfl) (hf:Region.free md ops listed i=true:=by kernel_rfl) (hr:(Region.ready md ops listed).contains i=true:=by kernel_rfl)
  (hwt:(late.all fun l=>waits md ops l i)=true:=by kernel_rfl) (hne:late.contains i=false:=by rfl)
  (hw:Region.wanted oi (yielded ops a.tmps)=true:=by rfl) (hQ:∀ c a w,Q (.panic c) (a.put oi.dst v) w→Q (.panic c) a w:=by exact fun _ _ _ h=>h):qB P md ops Q S late (fuel+1) listed a w:=
 wpAnyL_take hi hs hf hr hwt hne hQ hS (.inl ⟨hw,hy⟩) h
theorem zw {i:Nat} {o:Oper} {fuel:Nat} {listed:Array Bool} {a:Act} {w:World} (ho:ops[i]?=some o) (hr:Region.ready md ops listed=[i])
  (h:∀ K':Act→World→Prop,Hid (∀ a w,S w→(S w→qB P md ops Q S late fuel (listed.setIfInBounds i true) a w)→K' a w)→if Region.wanted o (yielded ops a.tmps)=true then Oper.wp P o a w K' Q else K' (a.put o.dst undef) w) :
  qB P md ops Q S late (fuel+1) listed a w:=by
 refine⟨fun h0=>absurd (hr▸h0) (by simp),fun j hj=>?_⟩
 rw[hr] at hj
 simp at hj
 subst hj
 exact wpOp_step ho (fun K' hK=>h K' (fun a w hS hW=>hK a w ⟨fun _ _=>hS,hW hS⟩))
theorem qx {i:Nat} {o:Oper} {fuel:Nat} {listed:Array Bool} {a:Act} {w:World} (ho:ops[i]?=some o) (hr:Region.ready md ops listed=[i]) (hl:late.contains i=true)
  (h:∀ K':Act→World→Prop,Hid (∀ a w,qB P md ops Q S late fuel (listed.setIfInBounds i true) a w→K' a w)→if Region.wanted o (yielded ops a.tmps)=true then Oper.wp P o a w K' Q else K' (a.put o.dst undef) w) :
  qB P md ops Q S late (fuel+1) listed a w:=by
 refine⟨fun h0=>absurd (hr▸h0) (by simp),fun j hj=>?_⟩
 rw[hr] at hj
 simp at hj
 subst hj
 exact wpOp_step ho (fun K' hK=>h K' (fun a w hW=>hK a w ⟨fun hn=>absurd (by simpa using hl) hn,hW⟩))
theorem qd {fuel:Nat} {listed:Array Bool} {a:Act} {w:World} (hr:Region.ready md ops listed=[]) (h:Q .normal a w):qB P md ops Q S late fuel listed a w:=by
 cases fuel with
 | zero=>exact⟨hr,h⟩
 | succ fuel=>exact⟨fun _=>h,by rw[hr];simp⟩
theorem qh {id:Nat} {a:Act} {w:World} (hm:P.follows .mixedOrders=true) (S:World→Prop) (late:List Nat)
  (h:qB P .any ops Q S late ops.size (Array.replicate ops.size false) a w.drew):(Code.region id ops true).wp P Q a w:=
 wp_region_any hm (zaf _ _ _ _ h)
end
end
end Go.Gal
namespace Go.Gal
open Go Go.Par Go.Proofs Go.RowKit
section
theorem below_drewN {B:Nat} {w w':World} (h:Below B w w'):∀ k,Below B w (w'.drewN k):=fun _k=>⟨h.os,h.tape,h.output,h.size,h.block⟩
section
variable {fs:Array Func} [Like fs]
theorem Yx (x:Int) (w:World):Calls (Pf fs) 134 #[.int .i64 x] w fun e w'=>e=.returned (.bool false)∧w'=w:=by
 go_enter LK.func134,Try.ntmps134
 go_wp2
 go_ret
 exact⟨by simp,rfl⟩
theorem YW (x y:Int) (w:World):Calls (Pf fs) 113 #[.int .i64 x,.int .i64 y] w fun e w'=>e=.returned (.int .i64 (if x<y then -1 else if y<x then 1 else 0))∧w'=w:=by
 by_cases h:x<y
 ·go_enter LK.func113,Try.ntmps113
  go_wp2_with (go_at_call 134;refine (Yx _ _).mono ?_;rintro e w' ⟨rfl,rfl⟩)
  go_ret
  exact⟨by simp,rfl⟩
 ·by_cases h2:y<x
  ·go_enter LK.func113,Try.ntmps113
   go_wp2_with (go_at_call 134;refine (Yx _ _).mono ?_;rintro e w' ⟨rfl,rfl⟩)
   go_ret
   exact⟨by simp,rfl⟩
  ·go_enter LK.func113,Try.ntmps113
   go_wp2_with (go_at_call 134;refine (Yx _ _).mono ?_;rintro e w' ⟨rfl,rfl⟩)
   go_ret
   exact⟨by simp,rfl⟩
theorem Jv (x y:Int) (w:World):Calls (Pf fs) 91 #[.int .i64 x,.int .i64 y] w fun e w'=>e=.returned (.bool (decide (x<y)))∧w'=w:=by
 by_cases h:x<y
 ·have hd:decide (x<y)=true:=by simp[h]
  rw[hd]
  go_enter LK.func91,Try.ntmps91
  go_wp2_with (go_at_call 113;refine (YW _ _ _).mono ?_;rw[if_pos h];rintro e w' ⟨rfl,rfl⟩)
  go_ret
  exact⟨rfl,rfl⟩
 ·have hd:decide (x<y)=false:=by simp[h]
  rw[hd]
  obtain⟨c,hc,hc0⟩:∃ c:Int,(if x<y then (-1:Int) else if y<x then 1 else 0)=c∧¬ c<0:=⟨_,rfl,by rw[if_neg h];split<;>omega⟩
  go_enter LK.func91,Try.ntmps91
  go_wp2_with (go_at_call 113;refine (YW _ _ _).mono ?_;rw[hc];rintro e w' ⟨rfl,rfl⟩)
  go_ret
  exact⟨by simp[hc0],rfl⟩
theorem qw {w:World} {b o:Nat} {v:Value} (h:w.cell? ⟨b,o,none⟩=some v):b<w.heap.size:=by
 unfold World.cell? at h
 split at h
 ·rename_i hx;exact (Array.getElem?_eq_some_iff.1 hx).1
 ·cases h
theorem cell_alloc {w:World} {b o:Nat} {v:Value} (x:Obj) (h:w.cell? ⟨b,o,none⟩=some v):(w.alloc x).cell? ⟨b,o,none⟩=some v:=
 (World.cell?_alloc_lt w x ⟨b,o,none⟩ (qw h)).trans h
theorem HaulAt.all {w w1:World} {X:Nat→Prop} {hb ho mb mo db do_ nd i h:Nat} {H:Haul1} (hc:∀ b o v,w.cell? ⟨b,o,none⟩=some v→w1.cell? ⟨b,o,none⟩=some v) (k:HaulAt w X hb ho mb mo db do_ nd i h H):HaulAt w1 X hb ho mb mo db do_ nd i h H:=by
 obtain⟨⟨pb,po,np,cp,d,nb,no,nn,cn,x1,x2,c1,c2,c3,c4,c5,c6,c7,c8,c9,c10⟩,k1,k2,k3,k4⟩:=k
 exact⟨⟨pb,po,np,cp,d,nb,no,nn,cn,x1,x2,hc _ _ _ c1,hc _ _ _ c2,hc _ _ _ c3,c4,hc _ _ _ c5,hc _ _ _ c6,c7,hc _ _ _ c8,c9,hc _ _ _ c10⟩,k1,k2,k3,k4⟩
theorem zah {A:Kit1} {i h:Nat} {H:Haul1} {X:Nat→Prop} (w:World) (k:HaulAt w X A.hb A.ho A.mb A.mo A.db A.dof A.nd i h H) (hh:h<A.nh) (hm:h<A.nm) :
  Calls (Pf fs) 75 #[A.k,A.m,int h,int i] w fun e w'=>e=.returned (int (H.covers*H.need))∧Below w.heap.size w w':=by
 have hq:IntKind.i64.wrap ((H.covers:Int)*(H.need:Int))=((H.covers*H.need:Nat):Int):=by
  have h1:=k.covers
  have h2:=k.need
  have h3:H.covers*H.need≤255*255:=Nat.mul_le_mul h1 h2
  rw[← Int.natCast_mul,IntKind.wrap_i64]
  omega
 obtain⟨⟨pb,po,np,cp,d,nb,no,nn,cn,_,_,c1,c2,c3,c4,c5,c6,c7,c8,c9,c10⟩,k1,k2,k3,k4⟩:=k.all (w1:=w.alloc (.cells #[A.gs,A.ds,A.hs] 29)) (fun b o v=>cell_alloc _)
 obtain⟨gb,go,ng,cg,hb,ho,nh,ch,mb,mo,nm,cm,db,dof,nd,cd⟩:=A
 clear k
 simp only[Kit1.k,Kit1.m,Kit1.gs,Kit1.ds,Kit1.hs,int] at *
 go_enter LK.func75,Try.ntmps75
 go_wp2
 go_quiet (fail)
 go_wp2_with fail
 go_ret
 exact⟨by simp[Int.natCast_mul],below_drewN ((Below.refl _ _).alloc (Nat.le_refl _) _) _⟩
set_option maxRecDepth 20000 in
theorem zek {A:Kit1} {i L:Nat} {D:Good1} {cs:Array Value} (w:World) (h n u:Nat) (hL:w.heap[L]?=some (.cells cs 125 (0,0))) (h0:cs[0]?=some A.gs) (hn:cs[3+i]?=some (int n)) (hi:i<A.ng) (hng:A.ng≤3)
  (hr:w.cell? ⟨A.gb,A.go+i*4+1,none⟩=some (int D.reserve)) (hgb:A.gb≠L) (hn1:n≤255) (hu1:u≤65025) :
  Calls (Pf fs) 100 #[.pointer (some ⟨L,0,none⟩),.int .i64 h,int i,int u] w fun e w'=>e=.returned (.bool (decide ((D.reserve:Int)≤(n:Int)-u)))∧∃ q,w'=(w.setCell ⟨L,3+i,none⟩ (.int .i64 ((n:Int)-u))).drewN q:=by
 have hq:IntKind.i64.wrap ((n:Int)-(u:Int))=(n:Int)-u:=by rw[IntKind.wrap_i64];omega
 have hc:w.cell? ⟨L,3+i,none⟩=some (int n):=(cell_of_row _ _ (3+i) _ 125 (0,0) hL).trans hn
 have hf:w.frozen? ⟨L,3+i,none⟩=false:=by unfold World.frozen?;rw[hL];rfl
 have hi3:(i:Int)<3:=by omega
 have g1:(w.setCell ⟨L,3+i,none⟩ (.int .i64 ((n:Int)-u))).cell? ⟨L,3+i,none⟩=some (.int .i64 ((n:Int)-u)):=World.cell?_setCell_same _ _ _ hc
 have g2:(w.setCell ⟨L,3+i,none⟩ (.int .i64 ((n:Int)-u))).cell? ⟨L,0,none⟩=some A.gs:=(World.cell?_setCell_other _ _ _ _ (by simp<;>omega)).trans ((cell_of_row _ _ 0 _ 125 (0,0) hL).trans h0)
 have g3:(w.setCell ⟨L,3+i,none⟩ (.int .i64 ((n:Int)-u))).cell? ⟨A.gb,A.go+i*4+1,none⟩=some (int D.reserve):=(World.cell?_setCell_other _ _ _ _ (by simp<;>omega)).trans hr
 have hq':=Lib.hid hq
 clear hq
 obtain⟨gb,go,ng,cg,hb,ho,nh,ch,mb,mo,nm,cm,db,dof,nd,cd⟩:=A
 simp only[Kit1.gs,int] at *
 go_enter LK.func100,Try.ntmps100
 go_wp2_with fail
 refine wp_region_still_tail 11 (by kernel_rfl) (by kernel_rfl) ?_
 simp only[List.take_succ_cons,List.take_zero,List.drop_succ_cons,List.drop_zero]
 change wpStill _ _ (World.drew _) (fun a'=>wpList _ _ _ _ a' (World.drew _)) _ _
 repeat still_step
 refine wpStill_nil ?_
 go_wp2_with fail
 go_quiet (fail)
 go_wp2_with fail
 go_ret
 exact⟨rfl,_,World.drewN_drew _ _⟩
end
end
end Go.Gal
