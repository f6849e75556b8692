/- What the two left programs S and Sw have in common: the real program's tables, and its functions but for those that are refused: so a contract is walked once, for both. -/
import Derived.Test.YtlgiofglcgbjgaaM22
namespace Go.Gal
open Go Go.Par Go.Proofs
noncomputable def Pf (fs:Array Func):Program:={ Try.prog with funcs:=fs }
class Like (fs:Array Func):Prop where
 funcs:∀ i fn,spW i=false→Try.prog.funcs[i]? = some fn→fn.body.isNone=false→fs[i]? = some fn
theorem modF_id {sp:Nat→Bool} {st:Nat→Func→Code} {i:Nat} {fn:Func} (h:sp i=false) (hb:fn.body.isNone=false):modF sp st i fn=fn:=by
 unfold modF
 rw [hb,h]
 rfl
instance like_S:Like S.funcs where
 funcs i fn h hf hb:=by
  have hs:spS i=false:=by
   simp only [spW,spS,Bool.or_eq_false_iff] at h ⊢
   simp [h]
  rw [left_get,hf]
  exact congrArg some (modF_id hs hb)
instance like_Sw:Like Sw.funcs where
 funcs i fn h hf hb:=by
  rw [left_get,hf]
  exact congrArg some (modF_id h hb)
section
theorem left_eq (R:Program) (sp:Nat→Bool) (st:Nat→Func→Code):leftP R sp st = { R with funcs:=(leftP R sp st).funcs }:=rfl
theorem pf_S:Pf S.funcs=S:=by unfold Pf;exact (left_eq Try.prog spS stubS).symm
theorem pf_Sw:Pf Sw.funcs=Sw:=by unfold Pf;exact (left_eq Try.prog spW stubW).symm
variable {fs:Array Func}
theorem like_info (t:TypeId):(Pf fs).info? t=Try.prog.info? t:=rfl
@[simp] theorem like_types:(Pf fs).toTables.types=Try.prog.toTables.types:=rfl
@[simp] theorem like_under (t:TypeId):(Pf fs).underlying t=Try.prog.underlying t:=by
 unfold Program.underlying
 simp only [like_info]
theorem run_ti (Q:Program) (t:TypeId) (w:World):(typeInfo t).run Q w=match Q.info? t with | some i=>.ok i w | none=>(stuck (α:=TypeInfo) "no such type").run Q w:=by
 show (match Q.info? t with | some i=>(pure i:Sem TypeInfo) | none=>stuck "no such type").run Q w = _
 cases Q.info? t<;>rfl
@[simp] theorem like_typeInfo (t:TypeId) (w:World):(typeInfo t).run (Pf fs) w=(typeInfo t).run Try.prog w:=by
 rw [run_ti,run_ti,like_info]
 cases Try.prog.info? t<;>rfl
theorem run_ud (Q:Program) (t:TypeId) (w:World):(underlying t).run Q w=match Q.underlying t with | some i=>.ok i w | none=>(stuck (α:=TypeDesc) "no such type").run Q w:=by
 show (match Q.underlying t with | some i=>(pure i:Sem TypeDesc) | none=>stuck "no such type").run Q w = _
 cases Q.underlying t<;>rfl
@[simp] theorem like_underlying (t:TypeId) (w:World):(underlying t).run (Pf fs) w=(underlying t).run Try.prog w:=by
 rw [run_ud,run_ud,like_under]
 cases Try.prog.underlying t<;>rfl
theorem run_szO (Q:Program) (t:TypeId) (w:World):(Go.sizeOf t).run Q w=match (typeInfo t).run Q w with | .ok i w=>.ok i.size w | .halt h w=>.halt h w:=by
 unfold Go.sizeOf
 rw [Sem.run_bind]
 cases (typeInfo t).run Q w<;>rfl
@[simp] theorem like_sizeOf (t:TypeId) (w:World):(Go.sizeOf t).run (Pf fs) w=(Go.sizeOf t).run Try.prog w:=by
 rw [run_szO,run_szO,like_typeInfo]
theorem run_zvO (Q:Program) (t:TypeId) (w:World):(zeroValue t).run Q w=match (typeInfo t).run Q w with | .ok i w=>(match i.zero with | some v=>.ok v w | none=>(unsupported (α:=Value) (.resourceLimit "a value of more than 2^22 cells")).run Q w) | .halt h w=>.halt h w:=by
 unfold zeroValue
 rw [Sem.run_bind]
 cases (typeInfo t).run Q w with
 | halt h w=>rfl
 | ok i w=>show (match i.zero with | some v=>(pure v:Sem Value) | none=>unsupported (.resourceLimit "a value of more than 2^22 cells")).run Q w=(match i.zero with | some v=>.ok v w | none=>(unsupported (α:=Value) (.resourceLimit "a value of more than 2^22 cells")).run Q w);cases i.zero<;>rfl
theorem un_run (Q Q':Program) (w:World) (r):(unsupported (α:=Value) r).run Q w=(unsupported (α:=Value) r).run Q' w:=rfl
@[simp] theorem like_zero (t:TypeId) (w:World):(zeroValue t).run (Pf fs) w=(zeroValue t).run Try.prog w:=by
 rw [run_zvO,run_zvO,like_typeInfo]
 simp only [un_run (Pf fs) Try.prog]
theorem run_agO (Q:Program) (t:TypeId) (w:World):(isAgg t).run Q w=match (underlying t).run Q w with | .ok i w=>.ok (match i with | .struct _ | .array _ _=>true | _=>false) w | .halt h w=>.halt h w:=by
 unfold isAgg
 rw [Sem.run_bind]
 cases (underlying t).run Q w with
 | halt h w=>rfl
 | ok i w=>cases i<;>rfl
@[simp] theorem like_isAgg (t:TypeId) (w:World):(isAgg t).run (Pf fs) w=(isAgg t).run Try.prog w:=by
 rw [run_agO,run_agO,like_underlying]
theorem like_call {f:FuncId} {fn:Func} (h:fs[f]? = some fn) (hb:fn.body.isNone=false) (hn:(fn.name == "runtime.NumGoroutine")=false) (args:Array Value) (w:World) :
  (callFunc f args).run (Pf fs) w=.ok (.enter f args) w:=by
 unfold callFunc
 rw [Sem.run_bind]
 show Sem.run (Pf fs) (match fs[f]? with | none=>_ | some fn=>_) w = _
 simp only [h,hn,hb]
 rfl
variable [Like fs]
theorem LK.func3:(Pf fs).funcs[3]? = some Try.f3:=Like.funcs (fs:=fs) 3 _ rfl Try.func3 rfl
@[simp] theorem LK.call3 (args:Array Value) (w:World):(callFunc 3 args).run (Pf fs) w=.ok (.enter 3 args) w:=like_call LK.func3 rfl rfl args w
theorem LK.func4:(Pf fs).funcs[4]? = some Try.f4:=Like.funcs (fs:=fs) 4 _ rfl Try.func4 rfl
@[simp] theorem LK.call4 (args:Array Value) (w:World):(callFunc 4 args).run (Pf fs) w=.ok (.enter 4 args) w:=like_call LK.func4 rfl rfl args w
theorem LK.func5:(Pf fs).funcs[5]? = some Try.f5:=Like.funcs (fs:=fs) 5 _ rfl Try.func5 rfl
@[simp] theorem LK.call5 (args:Array Value) (w:World):(callFunc 5 args).run (Pf fs) w=.ok (.enter 5 args) w:=like_call LK.func5 rfl rfl args w
theorem LK.func6:(Pf fs).funcs[6]? = some Try.f6:=Like.funcs (fs:=fs) 6 _ rfl Try.func6 rfl
@[simp] theorem LK.call6 (args:Array Value) (w:World):(callFunc 6 args).run (Pf fs) w=.ok (.enter 6 args) w:=like_call LK.func6 rfl rfl args w
theorem LK.func7:(Pf fs).funcs[7]? = some Try.f7:=Like.funcs (fs:=fs) 7 _ rfl Try.func7 rfl
@[simp] theorem LK.call7 (args:Array Value) (w:World):(callFunc 7 args).run (Pf fs) w=.ok (.enter 7 args) w:=like_call LK.func7 rfl rfl args w
theorem LK.func8:(Pf fs).funcs[8]? = some Try.f8:=Like.funcs (fs:=fs) 8 _ rfl Try.func8 rfl
@[simp] theorem LK.call8 (args:Array Value) (w:World):(callFunc 8 args).run (Pf fs) w=.ok (.enter 8 args) w:=like_call LK.func8 rfl rfl args w
theorem LK.func9:(Pf fs).funcs[9]? = some Try.f9:=Like.funcs (fs:=fs) 9 _ rfl Try.func9 rfl
@[simp] theorem LK.call9 (args:Array Value) (w:World):(callFunc 9 args).run (Pf fs) w=.ok (.enter 9 args) w:=like_call LK.func9 rfl rfl args w
theorem LK.func10:(Pf fs).funcs[10]? = some Try.f10:=Like.funcs (fs:=fs) 10 _ rfl Try.func10 rfl
@[simp] theorem LK.call10 (args:Array Value) (w:World):(callFunc 10 args).run (Pf fs) w=.ok (.enter 10 args) w:=like_call LK.func10 rfl rfl args w
theorem LK.func11:(Pf fs).funcs[11]? = some Try.f11:=Like.funcs (fs:=fs) 11 _ rfl Try.func11 rfl
@[simp] theorem LK.call11 (args:Array Value) (w:World):(callFunc 11 args).run (Pf fs) w=.ok (.enter 11 args) w:=like_call LK.func11 rfl rfl args w
theorem LK.func12:(Pf fs).funcs[12]? = some Try.f12:=Like.funcs (fs:=fs) 12 _ rfl Try.func12 rfl
@[simp] theorem LK.call12 (args:Array Value) (w:World):(callFunc 12 args).run (Pf fs) w=.ok (.enter 12 args) w:=like_call LK.func12 rfl rfl args w
theorem LK.func13:(Pf fs).funcs[13]? = some Try.f13:=Like.funcs (fs:=fs) 13 _ rfl Try.func13 rfl
@[simp] theorem LK.call13 (args:Array Value) (w:World):(callFunc 13 args).run (Pf fs) w=.ok (.enter 13 args) w:=like_call LK.func13 rfl rfl args w
theorem LK.func14:(Pf fs).funcs[14]? = some Try.f14:=Like.funcs (fs:=fs) 14 _ rfl Try.func14 rfl
@[simp] theorem LK.call14 (args:Array Value) (w:World):(callFunc 14 args).run (Pf fs) w=.ok (.enter 14 args) w:=like_call LK.func14 rfl rfl args w
theorem LK.func15:(Pf fs).funcs[15]? = some Try.f15:=Like.funcs (fs:=fs) 15 _ rfl Try.func15 rfl
@[simp] theorem LK.call15 (args:Array Value) (w:World):(callFunc 15 args).run (Pf fs) w=.ok (.enter 15 args) w:=like_call LK.func15 rfl rfl args w
theorem LK.func16:(Pf fs).funcs[16]? = some Try.f16:=Like.funcs (fs:=fs) 16 _ rfl Try.func16 rfl
@[simp] theorem LK.call16 (args:Array Value) (w:World):(callFunc 16 args).run (Pf fs) w=.ok (.enter 16 args) w:=like_call LK.func16 rfl rfl args w
theorem LK.func17:(Pf fs).funcs[17]? = some Try.f17:=Like.funcs (fs:=fs) 17 _ rfl Try.func17 rfl
@[simp] theorem LK.call17 (args:Array Value) (w:World):(callFunc 17 args).run (Pf fs) w=.ok (.enter 17 args) w:=like_call LK.func17 rfl rfl args w
theorem LK.func18:(Pf fs).funcs[18]? = some Try.f18:=Like.funcs (fs:=fs) 18 _ rfl Try.func18 rfl
@[simp] theorem LK.call18 (args:Array Value) (w:World):(callFunc 18 args).run (Pf fs) w=.ok (.enter 18 args) w:=like_call LK.func18 rfl rfl args w
theorem LK.func19:(Pf fs).funcs[19]? = some Try.f19:=Like.funcs (fs:=fs) 19 _ rfl Try.func19 rfl
@[simp] theorem LK.call19 (args:Array Value) (w:World):(callFunc 19 args).run (Pf fs) w=.ok (.enter 19 args) w:=like_call LK.func19 rfl rfl args w
theorem LK.func20:(Pf fs).funcs[20]? = some Try.f20:=Like.funcs (fs:=fs) 20 _ rfl Try.func20 rfl
@[simp] theorem LK.call20 (args:Array Value) (w:World):(callFunc 20 args).run (Pf fs) w=.ok (.enter 20 args) w:=like_call LK.func20 rfl rfl args w
theorem LK.func21:(Pf fs).funcs[21]? = some Try.f21:=Like.funcs (fs:=fs) 21 _ rfl Try.func21 rfl
@[simp] theorem LK.call21 (args:Array Value) (w:World):(callFunc 21 args).run (Pf fs) w=.ok (.enter 21 args) w:=like_call LK.func21 rfl rfl args w
theorem LK.func22:(Pf fs).funcs[22]? = some Try.f22:=Like.funcs (fs:=fs) 22 _ rfl Try.func22 rfl
@[simp] theorem LK.call22 (args:Array Value) (w:World):(callFunc 22 args).run (Pf fs) w=.ok (.enter 22 args) w:=like_call LK.func22 rfl rfl args w
theorem LK.func23:(Pf fs).funcs[23]? = some Try.f23:=Like.funcs (fs:=fs) 23 _ rfl Try.func23 rfl
@[simp] theorem LK.call23 (args:Array Value) (w:World):(callFunc 23 args).run (Pf fs) w=.ok (.enter 23 args) w:=like_call LK.func23 rfl rfl args w
theorem LK.func24:(Pf fs).funcs[24]? = some Try.f24:=Like.funcs (fs:=fs) 24 _ rfl Try.func24 rfl
@[simp] theorem LK.call24 (args:Array Value) (w:World):(callFunc 24 args).run (Pf fs) w=.ok (.enter 24 args) w:=like_call LK.func24 rfl rfl args w
theorem LK.func25:(Pf fs).funcs[25]? = some Try.f25:=Like.funcs (fs:=fs) 25 _ rfl Try.func25 rfl
@[simp] theorem LK.call25 (args:Array Value) (w:World):(callFunc 25 args).run (Pf fs) w=.ok (.enter 25 args) w:=like_call LK.func25 rfl rfl args w
theorem LK.func26:(Pf fs).funcs[26]? = some Try.f26:=Like.funcs (fs:=fs) 26 _ rfl Try.func26 rfl
@[simp] theorem LK.call26 (args:Array Value) (w:World):(callFunc 26 args).run (Pf fs) w=.ok (.enter 26 args) w:=like_call LK.func26 rfl rfl args w
theorem LK.func27:(Pf fs).funcs[27]? = some Try.f27:=Like.funcs (fs:=fs) 27 _ rfl Try.func27 rfl
@[simp] theorem LK.call27 (args:Array Value) (w:World):(callFunc 27 args).run (Pf fs) w=.ok (.enter 27 args) w:=like_call LK.func27 rfl rfl args w
theorem LK.func28:(Pf fs).funcs[28]? = some Try.f28:=Like.funcs (fs:=fs) 28 _ rfl Try.func28 rfl
@[simp] theorem LK.call28 (args:Array Value) (w:World):(callFunc 28 args).run (Pf fs) w=.ok (.enter 28 args) w:=like_call LK.func28 rfl rfl args w
theorem LK.func29:(Pf fs).funcs[29]? = some Try.f29:=Like.funcs (fs:=fs) 29 _ rfl Try.func29 rfl
@[simp] theorem LK.call29 (args:Array Value) (w:World):(callFunc 29 args).run (Pf fs) w=.ok (.enter 29 args) w:=like_call LK.func29 rfl rfl args w
theorem LK.func30:(Pf fs).funcs[30]? = some Try.f30:=Like.funcs (fs:=fs) 30 _ rfl Try.func30 rfl
@[simp] theorem LK.call30 (args:Array Value) (w:World):(callFunc 30 args).run (Pf fs) w=.ok (.enter 30 args) w:=like_call LK.func30 rfl rfl args w
theorem LK.func31:(Pf fs).funcs[31]? = some Try.f31:=Like.funcs (fs:=fs) 31 _ rfl Try.func31 rfl
@[simp] theorem LK.call31 (args:Array Value) (w:World):(callFunc 31 args).run (Pf fs) w=.ok (.enter 31 args) w:=like_call LK.func31 rfl rfl args w
theorem LK.func32:(Pf fs).funcs[32]? = some Try.f32:=Like.funcs (fs:=fs) 32 _ rfl Try.func32 rfl
@[simp] theorem LK.call32 (args:Array Value) (w:World):(callFunc 32 args).run (Pf fs) w=.ok (.enter 32 args) w:=like_call LK.func32 rfl rfl args w
theorem LK.func33:(Pf fs).funcs[33]? = some Try.f33:=Like.funcs (fs:=fs) 33 _ rfl Try.func33 rfl
@[simp] theorem LK.call33 (args:Array Value) (w:World):(callFunc 33 args).run (Pf fs) w=.ok (.enter 33 args) w:=like_call LK.func33 rfl rfl args w
theorem LK.func34:(Pf fs).funcs[34]? = some Try.f34:=Like.funcs (fs:=fs) 34 _ rfl Try.func34 rfl
@[simp] theorem LK.call34 (args:Array Value) (w:World):(callFunc 34 args).run (Pf fs) w=.ok (.enter 34 args) w:=like_call LK.func34 rfl rfl args w
theorem LK.func35:(Pf fs).funcs[35]? = some Try.f35:=Like.funcs (fs:=fs) 35 _ rfl Try.func35 rfl
@[simp] theorem LK.call35 (args:Array Value) (w:World):(callFunc 35 args).run (Pf fs) w=.ok (.enter 35 args) w:=like_call LK.func35 rfl rfl args w
theorem LK.func36:(Pf fs).funcs[36]? = some Try.f36:=Like.funcs (fs:=fs) 36 _ rfl Try.func36 rfl
@[simp] theorem LK.call36 (args:Array Value) (w:World):(callFunc 36 args).run (Pf fs) w=.ok (.enter 36 args) w:=like_call LK.func36 rfl rfl args w
theorem LK.func37:(Pf fs).funcs[37]? = some Try.f37:=Like.funcs (fs:=fs) 37 _ rfl Try.func37 rfl
@[simp] theorem LK.call37 (args:Array Value) (w:World):(callFunc 37 args).run (Pf fs) w=.ok (.enter 37 args) w:=like_call LK.func37 rfl rfl args w
theorem LK.func38:(Pf fs).funcs[38]? = some Try.f38:=Like.funcs (fs:=fs) 38 _ rfl Try.func38 rfl
@[simp] theorem LK.call38 (args:Array Value) (w:World):(callFunc 38 args).run (Pf fs) w=.ok (.enter 38 args) w:=like_call LK.func38 rfl rfl args w
theorem LK.func39:(Pf fs).funcs[39]? = some Try.f39:=Like.funcs (fs:=fs) 39 _ rfl Try.func39 rfl
@[simp] theorem LK.call39 (args:Array Value) (w:World):(callFunc 39 args).run (Pf fs) w=.ok (.enter 39 args) w:=like_call LK.func39 rfl rfl args w
theorem LK.func40:(Pf fs).funcs[40]? = some Try.f40:=Like.funcs (fs:=fs) 40 _ rfl Try.func40 rfl
@[simp] theorem LK.call40 (args:Array Value) (w:World):(callFunc 40 args).run (Pf fs) w=.ok (.enter 40 args) w:=like_call LK.func40 rfl rfl args w
theorem LK.func41:(Pf fs).funcs[41]? = some Try.f41:=Like.funcs (fs:=fs) 41 _ rfl Try.func41 rfl
@[simp] theorem LK.call41 (args:Array Value) (w:World):(callFunc 41 args).run (Pf fs) w=.ok (.enter 41 args) w:=like_call LK.func41 rfl rfl args w
theorem LK.func42:(Pf fs).funcs[42]? = some Try.f42:=Like.funcs (fs:=fs) 42 _ rfl Try.func42 rfl
@[simp] theorem LK.call42 (args:Array Value) (w:World):(callFunc 42 args).run (Pf fs) w=.ok (.enter 42 args) w:=like_call LK.func42 rfl rfl args w
theorem LK.func43:(Pf fs).funcs[43]? = some Try.f43:=Like.funcs (fs:=fs) 43 _ rfl Try.func43 rfl
@[simp] theorem LK.call43 (args:Array Value) (w:World):(callFunc 43 args).run (Pf fs) w=.ok (.enter 43 args) w:=like_call LK.func43 rfl rfl args w
theorem LK.func44:(Pf fs).funcs[44]? = some Try.f44:=Like.funcs (fs:=fs) 44 _ rfl Try.func44 rfl
@[simp] theorem LK.call44 (args:Array Value) (w:World):(callFunc 44 args).run (Pf fs) w=.ok (.enter 44 args) w:=like_call LK.func44 rfl rfl args w
theorem LK.func45:(Pf fs).funcs[45]? = some Try.f45:=Like.funcs (fs:=fs) 45 _ rfl Try.func45 rfl
@[simp] theorem LK.call45 (args:Array Value) (w:World):(callFunc 45 args).run (Pf fs) w=.ok (.enter 45 args) w:=like_call LK.func45 rfl rfl args w
theorem LK.func46:(Pf fs).funcs[46]? = some Try.f46:=Like.funcs (fs:=fs) 46 _ rfl Try.func46 rfl
@[simp] theorem LK.call46 (args:Array Value) (w:World):(callFunc 46 args).run (Pf fs) w=.ok (.enter 46 args) w:=like_call LK.func46 rfl rfl args w
theorem LK.func47:(Pf fs).funcs[47]? = some Try.f47:=Like.funcs (fs:=fs) 47 _ rfl Try.func47 rfl
@[simp] theorem LK.call47 (args:Array Value) (w:World):(callFunc 47 args).run (Pf fs) w=.ok (.enter 47 args) w:=like_call LK.func47 rfl rfl args w
theorem LK.func48:(Pf fs).funcs[48]? = some Try.f48:=Like.funcs (fs:=fs) 48 _ rfl Try.func48 rfl
@[simp] theorem LK.call48 (args:Array Value) (w:World):(callFunc 48 args).run (Pf fs) w=.ok (.enter 48 args) w:=like_call LK.func48 rfl rfl args w
theorem LK.func49:(Pf fs).funcs[49]? = some Try.f49:=Like.funcs (fs:=fs) 49 _ rfl Try.func49 rfl
@[simp] theorem LK.call49 (args:Array Value) (w:World):(callFunc 49 args).run (Pf fs) w=.ok (.enter 49 args) w:=like_call LK.func49 rfl rfl args w
theorem LK.func50:(Pf fs).funcs[50]? = some Try.f50:=Like.funcs (fs:=fs) 50 _ rfl Try.func50 rfl
@[simp] theorem LK.call50 (args:Array Value) (w:World):(callFunc 50 args).run (Pf fs) w=.ok (.enter 50 args) w:=like_call LK.func50 rfl rfl args w
theorem LK.func51:(Pf fs).funcs[51]? = some Try.f51:=Like.funcs (fs:=fs) 51 _ rfl Try.func51 rfl
@[simp] theorem LK.call51 (args:Array Value) (w:World):(callFunc 51 args).run (Pf fs) w=.ok (.enter 51 args) w:=like_call LK.func51 rfl rfl args w
theorem LK.func52:(Pf fs).funcs[52]? = some Try.f52:=Like.funcs (fs:=fs) 52 _ rfl Try.func52 rfl
@[simp] theorem LK.call52 (args:Array Value) (w:World):(callFunc 52 args).run (Pf fs) w=.ok (.enter 52 args) w:=like_call LK.func52 rfl rfl args w
theorem LK.func53:(Pf fs).funcs[53]? = some Try.f53:=Like.funcs (fs:=fs) 53 _ rfl Try.func53 rfl
@[simp] theorem LK.call53 (args:Array Value) (w:World):(callFunc 53 args).run (Pf fs) w=.ok (.enter 53 args) w:=like_call LK.func53 rfl rfl args w
theorem LK.func54:(Pf fs).funcs[54]? = some Try.f54:=Like.funcs (fs:=fs) 54 _ rfl Try.func54 rfl
@[simp] theorem LK.call54 (args:Array Value) (w:World):(callFunc 54 args).run (Pf fs) w=.ok (.enter 54 args) w:=like_call LK.func54 rfl rfl args w
theorem LK.func55:(Pf fs).funcs[55]? = some Try.f55:=Like.funcs (fs:=fs) 55 _ rfl Try.func55 rfl
@[simp] theorem LK.call55 (args:Array Value) (w:World):(callFunc 55 args).run (Pf fs) w=.ok (.enter 55 args) w:=like_call LK.func55 rfl rfl args w
theorem LK.func56:(Pf fs).funcs[56]? = some Try.f56:=Like.funcs (fs:=fs) 56 _ rfl Try.func56 rfl
@[simp] theorem LK.call56 (args:Array Value) (w:World):(callFunc 56 args).run (Pf fs) w=.ok (.enter 56 args) w:=like_call LK.func56 rfl rfl args w
theorem LK.func57:(Pf fs).funcs[57]? = some Try.f57:=Like.funcs (fs:=fs) 57 _ rfl Try.func57 rfl
@[simp] theorem LK.call57 (args:Array Value) (w:World):(callFunc 57 args).run (Pf fs) w=.ok (.enter 57 args) w:=like_call LK.func57 rfl rfl args w
theorem LK.func58:(Pf fs).funcs[58]? = some Try.f58:=Like.funcs (fs:=fs) 58 _ rfl Try.func58 rfl
@[simp] theorem LK.call58 (args:Array Value) (w:World):(callFunc 58 args).run (Pf fs) w=.ok (.enter 58 args) w:=like_call LK.func58 rfl rfl args w
theorem LK.func59:(Pf fs).funcs[59]? = some Try.f59:=Like.funcs (fs:=fs) 59 _ rfl Try.func59 rfl
@[simp] theorem LK.call59 (args:Array Value) (w:World):(callFunc 59 args).run (Pf fs) w=.ok (.enter 59 args) w:=like_call LK.func59 rfl rfl args w
theorem LK.func60:(Pf fs).funcs[60]? = some Try.f60:=Like.funcs (fs:=fs) 60 _ rfl Try.func60 rfl
@[simp] theorem LK.call60 (args:Array Value) (w:World):(callFunc 60 args).run (Pf fs) w=.ok (.enter 60 args) w:=like_call LK.func60 rfl rfl args w
theorem LK.func61:(Pf fs).funcs[61]? = some Try.f61:=Like.funcs (fs:=fs) 61 _ rfl Try.func61 rfl
@[simp] theorem LK.call61 (args:Array Value) (w:World):(callFunc 61 args).run (Pf fs) w=.ok (.enter 61 args) w:=like_call LK.func61 rfl rfl args w
theorem LK.func62:(Pf fs).funcs[62]? = some Try.f62:=Like.funcs (fs:=fs) 62 _ rfl Try.func62 rfl
@[simp] theorem LK.call62 (args:Array Value) (w:World):(callFunc 62 args).run (Pf fs) w=.ok (.enter 62 args) w:=like_call LK.func62 rfl rfl args w
theorem LK.func63:(Pf fs).funcs[63]? = some Try.f63:=Like.funcs (fs:=fs) 63 _ rfl Try.func63 rfl
@[simp] theorem LK.call63 (args:Array Value) (w:World):(callFunc 63 args).run (Pf fs) w=.ok (.enter 63 args) w:=like_call LK.func63 rfl rfl args w
theorem LK.func64:(Pf fs).funcs[64]? = some Try.f64:=Like.funcs (fs:=fs) 64 _ rfl Try.func64 rfl
@[simp] theorem LK.call64 (args:Array Value) (w:World):(callFunc 64 args).run (Pf fs) w=.ok (.enter 64 args) w:=like_call LK.func64 rfl rfl args w
theorem LK.func65:(Pf fs).funcs[65]? = some Try.f65:=Like.funcs (fs:=fs) 65 _ rfl Try.func65 rfl
@[simp] theorem LK.call65 (args:Array Value) (w:World):(callFunc 65 args).run (Pf fs) w=.ok (.enter 65 args) w:=like_call LK.func65 rfl rfl args w
theorem LK.func66:(Pf fs).funcs[66]? = some Try.f66:=Like.funcs (fs:=fs) 66 _ rfl Try.func66 rfl
@[simp] theorem LK.call66 (args:Array Value) (w:World):(callFunc 66 args).run (Pf fs) w=.ok (.enter 66 args) w:=like_call LK.func66 rfl rfl args w
theorem LK.func68:(Pf fs).funcs[68]? = some Try.f68:=Like.funcs (fs:=fs) 68 _ rfl Try.func68 rfl
@[simp] theorem LK.call68 (args:Array Value) (w:World):(callFunc 68 args).run (Pf fs) w=.ok (.enter 68 args) w:=like_call LK.func68 rfl rfl args w
theorem LK.func69:(Pf fs).funcs[69]? = some Try.f69:=Like.funcs (fs:=fs) 69 _ rfl Try.func69 rfl
@[simp] theorem LK.call69 (args:Array Value) (w:World):(callFunc 69 args).run (Pf fs) w=.ok (.enter 69 args) w:=like_call LK.func69 rfl rfl args w
theorem LK.func70:(Pf fs).funcs[70]? = some Try.f70:=Like.funcs (fs:=fs) 70 _ rfl Try.func70 rfl
@[simp] theorem LK.call70 (args:Array Value) (w:World):(callFunc 70 args).run (Pf fs) w=.ok (.enter 70 args) w:=like_call LK.func70 rfl rfl args w
theorem LK.func71:(Pf fs).funcs[71]? = some Try.f71:=Like.funcs (fs:=fs) 71 _ rfl Try.func71 rfl
@[simp] theorem LK.call71 (args:Array Value) (w:World):(callFunc 71 args).run (Pf fs) w=.ok (.enter 71 args) w:=like_call LK.func71 rfl rfl args w
theorem LK.func72:(Pf fs).funcs[72]? = some Try.f72:=Like.funcs (fs:=fs) 72 _ rfl Try.func72 rfl
@[simp] theorem LK.call72 (args:Array Value) (w:World):(callFunc 72 args).run (Pf fs) w=.ok (.enter 72 args) w:=like_call LK.func72 rfl rfl args w
theorem LK.func73:(Pf fs).funcs[73]? = some Try.f73:=Like.funcs (fs:=fs) 73 _ rfl Try.func73 rfl
@[simp] theorem LK.call73 (args:Array Value) (w:World):(callFunc 73 args).run (Pf fs) w=.ok (.enter 73 args) w:=like_call LK.func73 rfl rfl args w
theorem LK.func75:(Pf fs).funcs[75]? = some Try.f75:=Like.funcs (fs:=fs) 75 _ rfl Try.func75 rfl
@[simp] theorem LK.call75 (args:Array Value) (w:World):(callFunc 75 args).run (Pf fs) w=.ok (.enter 75 args) w:=like_call LK.func75 rfl rfl args w
theorem LK.func76:(Pf fs).funcs[76]? = some Try.f76:=Like.funcs (fs:=fs) 76 _ rfl Try.func76 rfl
@[simp] theorem LK.call76 (args:Array Value) (w:World):(callFunc 76 args).run (Pf fs) w=.ok (.enter 76 args) w:=like_call LK.func76 rfl rfl args w
theorem LK.func77:(Pf fs).funcs[77]? = some Try.f77:=Like.funcs (fs:=fs) 77 _ rfl Try.func77 rfl
@[simp] theorem LK.call77 (args:Array Value) (w:World):(callFunc 77 args).run (Pf fs) w=.ok (.enter 77 args) w:=like_call LK.func77 rfl rfl args w
theorem LK.func78:(Pf fs).funcs[78]? = some Try.f78:=Like.funcs (fs:=fs) 78 _ rfl Try.func78 rfl
@[simp] theorem LK.call78 (args:Array Value) (w:World):(callFunc 78 args).run (Pf fs) w=.ok (.enter 78 args) w:=like_call LK.func78 rfl rfl args w
theorem LK.func79:(Pf fs).funcs[79]? = some Try.f79:=Like.funcs (fs:=fs) 79 _ rfl Try.func79 rfl
@[simp] theorem LK.call79 (args:Array Value) (w:World):(callFunc 79 args).run (Pf fs) w=.ok (.enter 79 args) w:=like_call LK.func79 rfl rfl args w
theorem LK.func80:(Pf fs).funcs[80]? = some Try.f80:=Like.funcs (fs:=fs) 80 _ rfl Try.func80 rfl
@[simp] theorem LK.call80 (args:Array Value) (w:World):(callFunc 80 args).run (Pf fs) w=.ok (.enter 80 args) w:=like_call LK.func80 rfl rfl args w
theorem LK.func81:(Pf fs).funcs[81]? = some Try.f81:=Like.funcs (fs:=fs) 81 _ rfl Try.func81 rfl
@[simp] theorem LK.call81 (args:Array Value) (w:World):(callFunc 81 args).run (Pf fs) w=.ok (.enter 81 args) w:=like_call LK.func81 rfl rfl args w
theorem LK.func82:(Pf fs).funcs[82]? = some Try.f82:=Like.funcs (fs:=fs) 82 _ rfl Try.func82 rfl
@[simp] theorem LK.call82 (args:Array Value) (w:World):(callFunc 82 args).run (Pf fs) w=.ok (.enter 82 args) w:=like_call LK.func82 rfl rfl args w
theorem LK.func83:(Pf fs).funcs[83]? = some Try.f83:=Like.funcs (fs:=fs) 83 _ rfl Try.func83 rfl
@[simp] theorem LK.call83 (args:Array Value) (w:World):(callFunc 83 args).run (Pf fs) w=.ok (.enter 83 args) w:=like_call LK.func83 rfl rfl args w
theorem LK.func84:(Pf fs).funcs[84]? = some Try.f84:=Like.funcs (fs:=fs) 84 _ rfl Try.func84 rfl
@[simp] theorem LK.call84 (args:Array Value) (w:World):(callFunc 84 args).run (Pf fs) w=.ok (.enter 84 args) w:=like_call LK.func84 rfl rfl args w
theorem LK.func85:(Pf fs).funcs[85]? = some Try.f85:=Like.funcs (fs:=fs) 85 _ rfl Try.func85 rfl
@[simp] theorem LK.call85 (args:Array Value) (w:World):(callFunc 85 args).run (Pf fs) w=.ok (.enter 85 args) w:=like_call LK.func85 rfl rfl args w
theorem LK.func86:(Pf fs).funcs[86]? = some Try.f86:=Like.funcs (fs:=fs) 86 _ rfl Try.func86 rfl
@[simp] theorem LK.call86 (args:Array Value) (w:World):(callFunc 86 args).run (Pf fs) w=.ok (.enter 86 args) w:=like_call LK.func86 rfl rfl args w
theorem LK.func87:(Pf fs).funcs[87]? = some Try.f87:=Like.funcs (fs:=fs) 87 _ rfl Try.func87 rfl
@[simp] theorem LK.call87 (args:Array Value) (w:World):(callFunc 87 args).run (Pf fs) w=.ok (.enter 87 args) w:=like_call LK.func87 rfl rfl args w
theorem LK.func88:(Pf fs).funcs[88]? = some Try.f88:=Like.funcs (fs:=fs) 88 _ rfl Try.func88 rfl
@[simp] theorem LK.call88 (args:Array Value) (w:World):(callFunc 88 args).run (Pf fs) w=.ok (.enter 88 args) w:=like_call LK.func88 rfl rfl args w
theorem LK.func89:(Pf fs).funcs[89]? = some Try.f89:=Like.funcs (fs:=fs) 89 _ rfl Try.func89 rfl
@[simp] theorem LK.call89 (args:Array Value) (w:World):(callFunc 89 args).run (Pf fs) w=.ok (.enter 89 args) w:=like_call LK.func89 rfl rfl args w
theorem LK.func90:(Pf fs).funcs[90]? = some Try.f90:=Like.funcs (fs:=fs) 90 _ rfl Try.func90 rfl
@[simp] theorem LK.call90 (args:Array Value) (w:World):(callFunc 90 args).run (Pf fs) w=.ok (.enter 90 args) w:=like_call LK.func90 rfl rfl args w
theorem LK.func91:(Pf fs).funcs[91]? = some Try.f91:=Like.funcs (fs:=fs) 91 _ rfl Try.func91 rfl
@[simp] theorem LK.call91 (args:Array Value) (w:World):(callFunc 91 args).run (Pf fs) w=.ok (.enter 91 args) w:=like_call LK.func91 rfl rfl args w
theorem LK.func92:(Pf fs).funcs[92]? = some Try.f92:=Like.funcs (fs:=fs) 92 _ rfl Try.func92 rfl
@[simp] theorem LK.call92 (args:Array Value) (w:World):(callFunc 92 args).run (Pf fs) w=.ok (.enter 92 args) w:=like_call LK.func92 rfl rfl args w
theorem LK.func93:(Pf fs).funcs[93]? = some Try.f93:=Like.funcs (fs:=fs) 93 _ rfl Try.func93 rfl
@[simp] theorem LK.call93 (args:Array Value) (w:World):(callFunc 93 args).run (Pf fs) w=.ok (.enter 93 args) w:=like_call LK.func93 rfl rfl args w
theorem LK.func96:(Pf fs).funcs[96]? = some Try.f96:=Like.funcs (fs:=fs) 96 _ rfl Try.func96 rfl
@[simp] theorem LK.call96 (args:Array Value) (w:World):(callFunc 96 args).run (Pf fs) w=.ok (.enter 96 args) w:=like_call LK.func96 rfl rfl args w
theorem LK.func97:(Pf fs).funcs[97]? = some Try.f97:=Like.funcs (fs:=fs) 97 _ rfl Try.func97 rfl
@[simp] theorem LK.call97 (args:Array Value) (w:World):(callFunc 97 args).run (Pf fs) w=.ok (.enter 97 args) w:=like_call LK.func97 rfl rfl args w
theorem LK.func98:(Pf fs).funcs[98]? = some Try.f98:=Like.funcs (fs:=fs) 98 _ rfl Try.func98 rfl
@[simp] theorem LK.call98 (args:Array Value) (w:World):(callFunc 98 args).run (Pf fs) w=.ok (.enter 98 args) w:=like_call LK.func98 rfl rfl args w
theorem LK.func99:(Pf fs).funcs[99]? = some Try.f99:=Like.funcs (fs:=fs) 99 _ rfl Try.func99 rfl
@[simp] theorem LK.call99 (args:Array Value) (w:World):(callFunc 99 args).run (Pf fs) w=.ok (.enter 99 args) w:=like_call LK.func99 rfl rfl args w
theorem LK.func100:(Pf fs).funcs[100]? = some Try.f100:=Like.funcs (fs:=fs) 100 _ rfl Try.func100 rfl
@[simp] theorem LK.call100 (args:Array Value) (w:World):(callFunc 100 args).run (Pf fs) w=.ok (.enter 100 args) w:=like_call LK.func100 rfl rfl args w
theorem LK.func101:(Pf fs).funcs[101]? = some Try.f101:=Like.funcs (fs:=fs) 101 _ rfl Try.func101 rfl
@[simp] theorem LK.call101 (args:Array Value) (w:World):(callFunc 101 args).run (Pf fs) w=.ok (.enter 101 args) w:=like_call LK.func101 rfl rfl args w
theorem LK.func102:(Pf fs).funcs[102]? = some Try.f102:=Like.funcs (fs:=fs) 102 _ rfl Try.func102 rfl
@[simp] theorem LK.call102 (args:Array Value) (w:World):(callFunc 102 args).run (Pf fs) w=.ok (.enter 102 args) w:=like_call LK.func102 rfl rfl args w
theorem LK.func103:(Pf fs).funcs[103]? = some Try.f103:=Like.funcs (fs:=fs) 103 _ rfl Try.func103 rfl
@[simp] theorem LK.call103 (args:Array Value) (w:World):(callFunc 103 args).run (Pf fs) w=.ok (.enter 103 args) w:=like_call LK.func103 rfl rfl args w
theorem LK.func107:(Pf fs).funcs[107]? = some Try.f107:=Like.funcs (fs:=fs) 107 _ rfl Try.func107 rfl
@[simp] theorem LK.call107 (args:Array Value) (w:World):(callFunc 107 args).run (Pf fs) w=.ok (.enter 107 args) w:=like_call LK.func107 rfl rfl args w
theorem LK.func109:(Pf fs).funcs[109]? = some Try.f109:=Like.funcs (fs:=fs) 109 _ rfl Try.func109 rfl
@[simp] theorem LK.call109 (args:Array Value) (w:World):(callFunc 109 args).run (Pf fs) w=.ok (.enter 109 args) w:=like_call LK.func109 rfl rfl args w
theorem LK.func110:(Pf fs).funcs[110]? = some Try.f110:=Like.funcs (fs:=fs) 110 _ rfl Try.func110 rfl
@[simp] theorem LK.call110 (args:Array Value) (w:World):(callFunc 110 args).run (Pf fs) w=.ok (.enter 110 args) w:=like_call LK.func110 rfl rfl args w
theorem LK.func111:(Pf fs).funcs[111]? = some Try.f111:=Like.funcs (fs:=fs) 111 _ rfl Try.func111 rfl
@[simp] theorem LK.call111 (args:Array Value) (w:World):(callFunc 111 args).run (Pf fs) w=.ok (.enter 111 args) w:=like_call LK.func111 rfl rfl args w
theorem LK.func112:(Pf fs).funcs[112]? = some Try.f112:=Like.funcs (fs:=fs) 112 _ rfl Try.func112 rfl
@[simp] theorem LK.call112 (args:Array Value) (w:World):(callFunc 112 args).run (Pf fs) w=.ok (.enter 112 args) w:=like_call LK.func112 rfl rfl args w
theorem LK.func113:(Pf fs).funcs[113]? = some Try.f113:=Like.funcs (fs:=fs) 113 _ rfl Try.func113 rfl
@[simp] theorem LK.call113 (args:Array Value) (w:World):(callFunc 113 args).run (Pf fs) w=.ok (.enter 113 args) w:=like_call LK.func113 rfl rfl args w
theorem LK.func127:(Pf fs).funcs[127]? = some Try.f127:=Like.funcs (fs:=fs) 127 _ rfl Try.func127 rfl
@[simp] theorem LK.call127 (args:Array Value) (w:World):(callFunc 127 args).run (Pf fs) w=.ok (.enter 127 args) w:=like_call LK.func127 rfl rfl args w
theorem LK.func133:(Pf fs).funcs[133]? = some Try.f133:=Like.funcs (fs:=fs) 133 _ rfl Try.func133 rfl
@[simp] theorem LK.call133 (args:Array Value) (w:World):(callFunc 133 args).run (Pf fs) w=.ok (.enter 133 args) w:=like_call LK.func133 rfl rfl args w
theorem LK.func134:(Pf fs).funcs[134]? = some Try.f134:=Like.funcs (fs:=fs) 134 _ rfl Try.func134 rfl
@[simp] theorem LK.call134 (args:Array Value) (w:World):(callFunc 134 args).run (Pf fs) w=.ok (.enter 134 args) w:=like_call LK.func134 rfl rfl args w
end
end Go.Gal
