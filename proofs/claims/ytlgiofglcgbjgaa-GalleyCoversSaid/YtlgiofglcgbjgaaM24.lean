/- A region that draws its order and ends in stores to cells that it has loaded: what is asked of the world need not hold behind its late operations. Walks: what compares; what a menu uses. Walks: what melts. The map of plans that are known: its keys are pairs of integers, its elements plans. -/
import Derived.Test.YtlgiofglcgbjgaaM23
import Derived.WalkKit
import Derived.Below
import Derived.ProofKit
import Derived.Deep.Draws
import Derived.Deep.AppendLies
import Derived.Deep.RegionHeld3
import Derived.WalkMore
import Derived.Laws.OwnMore
import Derived.LoopTactic
import Derived.WalkSpells
import Derived.WalkLawsBesides
import Derived.Outline
import Derived.Deep.QuietTactic
import Derived.BigQuiet
import Derived.BigGuardPart
import Derived.Deep.DeepCutAuto
import Derived.Lib.Hide
import Derived.Deep.LoopGhost
import Derived.Maps.AppendAt
import Derived.RegionTactic
import Derived.OwnWalk
import Derived.StillTailTactics
import Derived.ChangeKeysEq
section
namespace Go.Gal
open Go.RowKit
def waits (md:Region.Mode) (ops:Array Oper) (last i:Nat):Bool:=((ops[last]?).map fun o=>o.after.any fun e=>Region.binds md e && e.on == i).getD false
section
variable {P:Program} {ops:Array Oper} {Q:Exit→Act→World→Prop} {md:Region.Mode} {S:World→Prop} {late:List Nat}
def wpAnyL (P:Program) (md:Region.Mode) (ops:Array Oper) (Q:Exit→Act→World→Prop) (S:World→Prop) (late:List Nat):Nat→Array Bool→Act→World→Prop
 | 0,listed,a,w=>Region.ready md ops listed=[]∧Q .normal a w
 | fuel + 1,listed,a,w =>
  (Region.ready md ops listed=[]→Q .normal a w) ∧
  ∀ i∈Region.ready md ops listed,wpOp P ops Q i (fun a' w'=>(i ∉ late→S w→S w')∧wpAnyL P md ops Q S late fuel (listed.setIfInBounds i true) a' w') a w
theorem wpAny_of_L:∀ (fuel:Nat) (listed:Array Bool) (a:Act) (w:World),wpAnyL P md ops Q S late fuel listed a w→wpAny P md ops Q fuel listed a w
 | 0,_,_,_,h=>h
 | fuel + 1,_,_,_,h=>⟨h.1,fun i hi=>wpOp_mono (fun a' w' h'=>wpAny_of_L fuel _ a' w' h'.2) (h.2 i hi)⟩
theorem wpAnyL_first {i:Nat} {oi:Oper} {v:Value} (hi:ops[i]? = some oi) (hsel:∀ (j:Nat) (o:Oper) cs b,ops[j]? = some o→o.op≠.select cs b)
  (hQ:∀ c a w,Q (.panic c) (a.put oi.dst v) w→Q (.panic c) a w) (hw:(late.all fun l=>waits md ops l i)=true) (hne:i ∉ late) :
  ∀ (fuel:Nat) (listed:Array Bool) (a:Act) (w:World),
   (∀ j oj,ops[j]? = some oj→j≠i→listed.getD j true=false→(∀ e∈oj.after,Region.binds md e=true→e.on≠i)→oi.apart ops oj=true) →
   i∈Region.ready md ops listed→YieldsIf P ops S oi v a→S w →
   wpAnyL P md ops Q S late fuel (listed.setIfInBounds i true) (a.put oi.dst v) w→wpAnyL P md ops Q S late (fuel + 1) listed a w:=by
 intro fuel
 induction fuel with
 | zero =>
  intro listed a w _ hr hy hS H
  refine ⟨fun h=>(by rw [h] at hr;cases hr),fun j hj=>?_⟩
  by_cases hji:j=i
  ·subst hji;exact hy.wpOp hi hS ⟨fun _ _=>hS,H⟩
  ·have:=ready_mono hj hji
   rw [H.1] at this
   cases this
 | succ fuel ih =>
  intro listed a w hfree hr hy hS H
  refine ⟨fun h=>(by rw [h] at hr;cases hr),fun j hj=>?_⟩
  by_cases hji:j=i
  ·subst hji;exact hy.wpOp hi hS ⟨fun _ _=>hS,H⟩
  ·have h1:=H.2 j (ready_mono hj hji)
   obtain ⟨hjun,oj,hoj,hall⟩:=mem_ready.1 hj
   have hnot:∀ e∈oj.after,Region.binds md e=true→e.on≠i:=fun e he hb heq=>by
    have h1:=hall e he hb
    have h0:=(mem_ready.1 hr).1
    rw [heq] at h1
    rcases Nat.lt_or_ge i listed.size with h' | h'
    ·simp [h'] at h0 h1;rw [h0] at h1;cases h1
    ·simp [Array.getElem?_eq_none h'] at h1
   have hjl:j ∉ late:=by
    intro e
    have hw:=List.all_eq_true.1 hw j e
    simp only [waits,hoj,Option.map_some,Option.getD_some] at hw
    obtain ⟨e,he,hb⟩:=Array.any_eq_true'.1 hw
    simp only [Bool.and_eq_true,beq_iff_eq] at hb
    exact hnot e he hb.1 hb.2
   have h2:=wpOp_putIf hoj (hfree j oj hoj hji hjun hnot) (fun cs b=>hsel i oi cs b hi) (fun cs b=>hsel j oj cs b hoj) hQ hy h1
   have hfree':∀ k ok,ops[k]? = some ok→k≠i→(listed.setIfInBounds j true).getD k true=false →
     (∀ e∈ok.after,Region.binds md e=true→e.on≠i)→oi.apart ops ok=true:=fun k ok hk hki hun hno=>by
    refine hfree k ok hk hki ?_ hno
    by_cases hjk:j=k
    ·subst hjk;exact hjun
    ·rw [getD_set_ne true hjk] at hun;exact hun
   refine wpOp_mono (fun a' w' h3=>⟨fun _=>h3.2.1 hjl,ih (listed.setIfInBounds j true) a' w' hfree' (ready_mono hr (Ne.symm hji)) h3.1 (h3.2.1 hjl hS) ?_⟩) h2
   rw [Array.setIfInBounds_comm _ _ hji]
   exact h3.2.2
theorem wpAnyL_firstP {i:Nat} {oi:Oper} {v:Value} (hi:ops[i]? = some oi) (hsel:∀ (j:Nat) (o:Oper) cs b,ops[j]? = some o→o.op≠.select cs b)
  (hQ:∀ c a w,Q (.panic c) (a.put oi.dst v) w→Q (.panic c) a w) :
  ∀ (fuel:Nat) (listed:Array Bool) (a:Act) (w:World),
   (∀ j oj,ops[j]? = some oj→j≠i→listed.getD j true=false→(∀ e∈oj.after,Region.binds md e=true→e.on≠i)→oi.apart ops oj=true) →
   i∈Region.ready md ops listed→YieldsIf P ops (fun _=>True) oi v a →
   wpAnyL P md ops Q S late fuel (listed.setIfInBounds i true) (a.put oi.dst v) w→wpAnyL P md ops Q S late (fuel + 1) listed a w:=by
 intro fuel
 induction fuel with
 | zero =>
  intro listed a w _ hr hy H
  refine ⟨fun h=>(by rw [h] at hr;cases hr),fun j hj=>?_⟩
  by_cases hji:j=i
  ·subst hji;exact hy.wpOp hi trivial ⟨fun _ hS=>hS,H⟩
  ·have:=ready_mono hj hji
   rw [H.1] at this
   cases this
 | succ fuel ih =>
  intro listed a w hfree hr hy H
  refine ⟨fun h=>(by rw [h] at hr;cases hr),fun j hj=>?_⟩
  by_cases hji:j=i
  ·subst hji;exact hy.wpOp hi trivial ⟨fun _ hS=>hS,H⟩
  ·have h1:=H.2 j (ready_mono hj hji)
   obtain ⟨hjun,oj,hoj,hall⟩:=mem_ready.1 hj
   have hnot:∀ e∈oj.after,Region.binds md e=true→e.on≠i:=fun e he hb heq=>by
    have h1:=hall e he hb
    have h0:=(mem_ready.1 hr).1
    rw [heq] at h1
    rcases Nat.lt_or_ge i listed.size with h' | h'
    ·simp [h'] at h0 h1;rw [h0] at h1;cases h1
    ·simp [Array.getElem?_eq_none h'] at h1
   have h2:=wpOp_putIf hoj (hfree j oj hoj hji hjun hnot) (fun cs b=>hsel i oi cs b hi) (fun cs b=>hsel j oj cs b hoj) hQ hy h1
   have hfree':∀ k ok,ops[k]? = some ok→k≠i→(listed.setIfInBounds j true).getD k true=false →
     (∀ e∈ok.after,Region.binds md e=true→e.on≠i)→oi.apart ops ok=true:=fun k ok hk hki hun hno=>by
    refine hfree k ok hk hki ?_ hno
    by_cases hjk:j=k
    ·subst hjk;exact hjun
    ·rw [getD_set_ne true hjk] at hun;exact hun
   refine wpOp_mono (fun a' w' h3=>⟨h3.2.1,ih (listed.setIfInBounds j true) a' w' hfree' (ready_mono hr (Ne.symm hji)) h3.1 ?_⟩) h2
   rw [Array.setIfInBounds_comm _ _ hji]
   exact h3.2.2
theorem wpAnyL_pure {i:Nat} {oi:Oper} {v:Value} {fuel:Nat} {listed:Array Bool} {a:Act} {w:World} (hi:ops[i]? = some oi)
  (hs:Region.noSelect ops=true) (hf:Region.free md ops listed i=true) (hr:(Region.ready md ops listed).contains i=true)
  (hQ:∀ c a w,Q (.panic c) (a.put oi.dst v) w→Q (.panic c) a w) (hy:YieldsIf P ops (fun _=>True) oi v a)
  (h:wpAnyL P md ops Q S late fuel (listed.setIfInBounds i true) (a.put oi.dst v) w):wpAnyL P md ops Q S late (fuel + 1) listed a w:=
 wpAnyL_firstP hi (Region.noSelect_spec hs) hQ fuel listed a w (Region.free_spec hi hf) (by simpa using hr) hy h
theorem wpAnyL_take {i:Nat} {oi:Oper} {v:Value} {fuel:Nat} {listed:Array Bool} {a:Act} {w:World} (hi:ops[i]? = some oi)
  (hs:Region.noSelect ops=true) (hf:Region.free md ops listed i=true) (hr:(Region.ready md ops listed).contains i=true) (hwt:(late.all fun l=>waits md ops l i)=true) (hne:late.contains i=false)
  (hQ:∀ c a w,Q (.panic c) (a.put oi.dst v) w→Q (.panic c) a w) (hS:S w) (hy:YieldsIf P ops S oi v a)
  (h:wpAnyL P md ops Q S late fuel (listed.setIfInBounds i true) (a.put oi.dst v) w):wpAnyL P md ops Q S late (fuel + 1) listed a w:=
 wpAnyL_first hi (Region.noSelect_spec hs) hQ hwt (by simpa using hne) fuel listed a w (Region.free_spec hi hf) (by simpa using hr) hy hS h
theorem wpAnyL_p (i:Nat) (v:Value) {oi:Oper} {fuel:Nat} {listed:Array Bool} {a:Act} {w:World} (hi:ops[i]? = some oi) (hy:∀ w,True→(execOp a.eval oi).run P w=.ok (.value v) w)
  (h:wpAnyL P md ops Q S late fuel (listed.setIfInBounds i true) (a.put oi.dst v) w) (hs:Region.noSelect ops=true:=by kernel_rfl) (hf:Region.free md ops listed i=true:=by kernel_rfl) (hr:(Region.ready md ops listed).contains i=true:=by kernel_rfl)
  (hw:Region.wanted oi (yielded ops a.tmps)=true:=by rfl) (hQ:∀ c a w,Q (.panic c) (a.put oi.dst v) w→Q (.panic c) a w:=by exact fun _ _ _ h=>h):wpAnyL P md ops Q S late (fuel + 1) listed a w:=
 wpAnyL_pure hi hs hf hr hQ (.inl ⟨hw,hy⟩) h
theorem wpAnyL_t (i:Nat) (v:Value) {oi:Oper} {fuel:Nat} {listed:Array Bool} {a:Act} {w:World} (hi:ops[i]? = some oi) (hS:S w) (hy:∀ w,S w→(execOp a.eval oi).run P w=.ok (.value v) w)
  (h:wpAnyL P md ops Q S late fuel (listed.setIfInBounds i true) (a.put oi.dst v) w) (hs:Region.noSelect ops=true:=by kernel_rfl) (hf:Region.free md ops listed i=true:=by kernel_rfl) (hr:(Region.ready md ops listed).contains i=true:=by kernel_rfl)
  (hwt:(late.all fun l=>waits md ops l i)=true:=by kernel_rfl) (hne:late.contains i=false:=by rfl)
  (hw:Region.wanted oi (yielded ops a.tmps)=true:=by rfl) (hQ:∀ c a w,Q (.panic c) (a.put oi.dst v) w→Q (.panic c) a w:=by exact fun _ _ _ h=>h):wpAnyL P md ops Q S late (fuel + 1) listed a w:=
 wpAnyL_take hi hs hf hr hwt hne hQ hS (.inl ⟨hw,hy⟩) h
theorem wpAnyL_one {i:Nat} {o:Oper} {fuel:Nat} {listed:Array Bool} {a:Act} {w:World} (ho:ops[i]? = some o) (hr:Region.ready md ops listed=[i])
  (h:∀ K':Act→World→Prop,Hid (∀ a w,S w→(S w→wpAnyL P md ops Q S late fuel (listed.setIfInBounds i true) a w)→K' a w)→if Region.wanted o (yielded ops a.tmps)=true then Oper.wp P o a w K' Q else K' (a.put o.dst undef) w) :
  wpAnyL P md ops Q S late (fuel + 1) listed a w:=by
 refine ⟨fun h0=>absurd (hr ▸ h0) (by simp),fun j hj=>?_⟩
 rw [hr] at hj
 simp at hj
 subst hj
 exact wpOp_step ho (fun K' hK=>h K' (fun a w hS hW=>hK a w ⟨fun _ _=>hS,hW hS⟩))
theorem wpAnyL_late {i:Nat} {o:Oper} {fuel:Nat} {listed:Array Bool} {a:Act} {w:World} (ho:ops[i]? = some o) (hr:Region.ready md ops listed=[i]) (hl:late.contains i=true)
  (h:∀ K':Act→World→Prop,Hid (∀ a w,wpAnyL P md ops Q S late fuel (listed.setIfInBounds i true) a w→K' a w)→if Region.wanted o (yielded ops a.tmps)=true then Oper.wp P o a w K' Q else K' (a.put o.dst undef) w) :
  wpAnyL P md ops Q S late (fuel + 1) listed a w:=by
 refine ⟨fun h0=>absurd (hr ▸ h0) (by simp),fun j hj=>?_⟩
 rw [hr] at hj
 simp at hj
 subst hj
 exact wpOp_step ho (fun K' hK=>h K' (fun a w hW=>hK a w ⟨fun hn=>absurd (by simpa using hl) hn,hW⟩))
theorem wpAnyL_done {fuel:Nat} {listed:Array Bool} {a:Act} {w:World} (hr:Region.ready md ops listed=[]) (h:Q .normal a w):wpAnyL P md ops Q S late fuel listed a w:=by
 cases fuel with
 | zero=>exact ⟨hr,h⟩
 | succ fuel=>exact ⟨fun _=>h,by rw [hr];simp⟩
theorem wp_region_L {id:Nat} {a:Act} {w:World} (hm:P.follows .mixedOrders=true) (S:World→Prop) (late:List Nat)
  (h:wpAnyL P .any ops Q S late ops.size (Array.replicate ops.size false) a w.drew):(Code.region id ops true).wp P Q a w:=
 wp_region_any hm (wpAny_of_L _ _ _ _ h)
end
end Go.Gal
end
section
namespace Go.Gal
open Go Go.Par Go.Proofs Go.RowKit
theorem below_drewN {B:Nat} {w w':World} (h:Below B w w'):∀ k,Below B w (w'.drewN k):=fun _k=>⟨h.os,h.tape,h.output,h.size,h.block⟩
section
variable {fs:Array Func} [Like fs]
theorem isNaN_any (x:Int) (w:World):Calls (Pf fs) 134 #[.int .i64 x] w fun e w'=>e=.returned (.bool false)∧w'=w:=by
 go_enter LK.func134,Try.ntmps134
 go_wp2
 go_ret
 exact ⟨by simp,rfl⟩
theorem compare_any (x y:Int) (w:World):Calls (Pf fs) 113 #[.int .i64 x,.int .i64 y] w fun e w'=>e=.returned (.int .i64 (if x < y then -1 else if y < x then 1 else 0))∧w'=w:=by
 by_cases h:x < y
 ·go_enter LK.func113,Try.ntmps113
  go_wp2_with (go_at_call 134;refine (isNaN_any _ _).mono ?_;rintro e w' ⟨rfl,rfl⟩)
  go_ret
  exact ⟨by simp,rfl⟩
 ·by_cases h2:y < x
  ·go_enter LK.func113,Try.ntmps113
   go_wp2_with (go_at_call 134;refine (isNaN_any _ _).mono ?_;rintro e w' ⟨rfl,rfl⟩)
   go_ret
   exact ⟨by simp,rfl⟩
  ·go_enter LK.func113,Try.ntmps113
   go_wp2_with (go_at_call 134;refine (isNaN_any _ _).mono ?_;rintro e w' ⟨rfl,rfl⟩)
   go_ret
   exact ⟨by simp,rfl⟩
theorem lesser_any (x y:Int) (w:World):Calls (Pf fs) 91 #[.int .i64 x,.int .i64 y] w fun e w'=>e=.returned (.bool (decide (x < y)))∧w'=w:=by
 by_cases h:x < y
 ·have hd:decide (x < y)=true:=by simp [h]
  rw [hd]
  go_enter LK.func91,Try.ntmps91
  go_wp2_with (go_at_call 113;refine (compare_any _ _ _).mono ?_;rw [if_pos h];rintro e w' ⟨rfl,rfl⟩)
  go_ret
  exact ⟨rfl,rfl⟩
 ·have hd:decide (x < y)=false:=by simp [h]
  rw [hd]
  obtain ⟨c,hc,hc0⟩:∃ c:Int,(if x < y then (-1:Int) else if y < x then 1 else 0)=c∧¬ c < 0:=⟨_,rfl,by rw [if_neg h];split<;>omega⟩
  go_enter LK.func91,Try.ntmps91
  go_wp2_with (go_at_call 113;refine (compare_any _ _ _).mono ?_;rw [hc];rintro e w' ⟨rfl,rfl⟩)
  go_ret
  exact ⟨by simp [hc0],rfl⟩
theorem cell_lt {w:World} {b o:Nat} {v:Value} (h:w.cell? ⟨b,o,none⟩=some v):b < w.heap.size:=by
 unfold World.cell? at h
 split at h
 ·rename_i hx;exact (Array.getElem?_eq_some_iff.1 hx).1
 ·cases h
theorem cell_alloc {w:World} {b o:Nat} {v:Value} (x:Obj) (h:w.cell? ⟨b,o,none⟩=some v):(w.alloc x).cell? ⟨b,o,none⟩=some v:=
 (World.cell?_alloc_lt w x ⟨b,o,none⟩ (cell_lt h)).trans h
theorem HaulAt.all {w w1:World} {X:Nat→Prop} {hb ho mb mo db do_ nd i h:Nat} {H:Haul1} (hc:∀ b o v,w.cell? ⟨b,o,none⟩=some v→w1.cell? ⟨b,o,none⟩=some v) (k:HaulAt w X hb ho mb mo db do_ nd i h H):HaulAt w1 X hb ho mb mo db do_ nd i h H:=by
 obtain ⟨⟨pb,po,np,cp,d,nb,no,nn,cn,x1,x2,c1,c2,c3,c4,c5,c6,c7,c8,c9,c10⟩,k1,k2,k3,k4⟩:=k
 exact ⟨⟨pb,po,np,cp,d,nb,no,nn,cn,x1,x2,hc _ _ _ c1,hc _ _ _ c2,hc _ _ _ c3,c4,hc _ _ _ c5,hc _ _ _ c6,c7,hc _ _ _ c8,c9,hc _ _ _ c10⟩,k1,k2,k3,k4⟩
theorem uses_any {A:Kit1} {i h:Nat} {H:Haul1} {X:Nat→Prop} (w:World) (k:HaulAt w X A.hb A.ho A.mb A.mo A.db A.dof A.nd i h H) (hh:h < A.nh) (hm:h < A.nm) :
  Calls (Pf fs) 75 #[A.k,A.m,int h,int i] w fun e w'=>e=.returned (int (H.covers * H.need))∧Below w.heap.size w w':=by
 have hq:IntKind.i64.wrap ((H.covers:Int) * (H.need:Int))=((H.covers * H.need:Nat):Int):=by
  have h1:=k.covers
  have h2:=k.need
  have h3:H.covers * H.need≤255 * 255:=Nat.mul_le_mul h1 h2
  rw [← Int.natCast_mul,IntKind.wrap_i64]
  omega
 obtain ⟨⟨pb,po,np,cp,d,nb,no,nn,cn,_,_,c1,c2,c3,c4,c5,c6,c7,c8,c9,c10⟩,k1,k2,k3,k4⟩:=k.all (w1:=w.alloc (.cells #[A.gs,A.ds,A.hs] 29)) (fun b o v=>cell_alloc _)
 obtain ⟨gb,go,ng,cg,hb,ho,nh,ch,mb,mo,nm,cm,db,dof,nd,cd⟩:=A
 clear k
 simp only [Kit1.k,Kit1.m,Kit1.gs,Kit1.ds,Kit1.hs,int] at *
 go_enter LK.func75,Try.ntmps75
 go_wp2
 go_quiet (fail)
 go_wp2_with fail
 go_ret
 exact ⟨by simp [Int.natCast_mul],below_drewN ((Below.refl _ _).alloc (Nat.le_refl _) _) _⟩
set_option maxRecDepth 20000 in
theorem eat_any {A:Kit1} {i L:Nat} {D:Good1} {cs:Array Value} (w:World) (h n u:Nat) (hL:w.heap[L]? = some (.cells cs 125 (0,0))) (h0:cs[0]? = some A.gs) (hn:cs[3 + i]? = some (int n)) (hi:i < A.ng) (hng:A.ng≤3)
  (hr:w.cell? ⟨A.gb,A.go + i * 4 + 1,none⟩=some (int D.reserve)) (hgb:A.gb≠L) (hn1:n≤255) (hu1:u≤65025) :
  Calls (Pf fs) 100 #[.pointer (some ⟨L,0,none⟩),.int .i64 h,int i,int u] w fun e w'=>e=.returned (.bool (decide ((D.reserve:Int)≤(n:Int) - u)))∧∃ q,w'=(w.setCell ⟨L,3 + i,none⟩ (.int .i64 ((n:Int) - u))).drewN q:=by
 have hq:IntKind.i64.wrap ((n:Int) - (u:Int))=(n:Int) - u:=by rw [IntKind.wrap_i64];omega
 have hc:w.cell? ⟨L,3 + i,none⟩=some (int n):=(cell_of_row _ _ (3 + i) _ 125 (0,0) hL).trans hn
 have hf:w.frozen? ⟨L,3 + i,none⟩=false:=by unfold World.frozen?;rw [hL];rfl
 have hi3:(i:Int) < 3:=by omega
 have g1:(w.setCell ⟨L,3 + i,none⟩ (.int .i64 ((n:Int) - u))).cell? ⟨L,3 + i,none⟩=some (.int .i64 ((n:Int) - u)):=World.cell?_setCell_same _ _ _ hc
 have g2:(w.setCell ⟨L,3 + i,none⟩ (.int .i64 ((n:Int) - u))).cell? ⟨L,0,none⟩=some A.gs:=(World.cell?_setCell_other _ _ _ _ (by simp<;>omega)).trans ((cell_of_row _ _ 0 _ 125 (0,0) hL).trans h0)
 have g3:(w.setCell ⟨L,3 + i,none⟩ (.int .i64 ((n:Int) - u))).cell? ⟨A.gb,A.go + i * 4 + 1,none⟩=some (int D.reserve):=(World.cell?_setCell_other _ _ _ _ (by simp<;>omega)).trans hr
 have hq':=Lib.hid hq
 clear hq
 obtain ⟨gb,go,ng,cg,hb,ho,nh,ch,mb,mo,nm,cm,db,dof,nd,cd⟩:=A
 simp only [Kit1.gs,int] at *
 go_enter LK.func100,Try.ntmps100
 go_wp2_with fail
 refine wp_region_still_tail 11 (by kernel_rfl) (by kernel_rfl) ?_
 simp only [List.take_succ_cons,List.take_zero,List.drop_succ_cons,List.drop_zero]
 change wpStill _ _ (World.drew _) (fun a'=>wpList _ _ _ _ a' (World.drew _)) _ _
 repeat still_step
 refine wpStill_nil ?_
 go_wp2_with fail
 go_quiet (fail)
 go_wp2_with fail
 go_ret
 exact ⟨rfl,_,World.drewN_drew _ _⟩
end
end Go.Gal
end
section
namespace Go.Gal
open Go Go.Par Go.Proofs Go.RowKit
section
variable {fs:Array Func} [Like fs]
def melted (hours melts n:Nat):Nat:=if 0 < melts then min n (hours / melts) else 0
def c1:Code→Code | .seq a _=>a | _=>.skip
def c2:Code→Code | .seq _ b=>b | _=>.skip
def ct:Code→Code | .cond _ a _=>a | _=>.skip
set_option maxRecDepth 20000 in
set_option maxHeartbeats 4000000 in
theorem melt_any {A:Kit1} {i L h hours melts:Nat} {cs:Array Value} (w:World) (n m:Nat) (hL:w.heap[L]? = some (.cells cs 125 (0,0))) (h0:cs[0]? = some A.gs) (h2:cs[2]? = some A.hs) (hn:cs[3 + i]? = some (int n)) (hm:cs[6 + i]? = some (int m)) (hi:i < A.ng) (hng:A.ng≤3) (hh:h < A.nh)
  (hr:w.cell? ⟨A.gb,A.go + i * 4 + 2,none⟩=some (int melts)) (hH:w.cell? ⟨A.hb,A.ho + h * 3,none⟩=some (int hours)) (hn1:n≤65025) (hm1:m≤1000000) (hh1:hours≤1000000) (z:Int) :
  Calls (Pf fs) 98 #[.pointer (some ⟨L,0,none⟩),int h,int i,.int .i64 z] w fun e w'=>e=.returned (.bool true)∧∃ q,w'=(if 0 < melts then (w.setCell ⟨L,3 + i,none⟩ (int (n - melted hours melts n))).setCell ⟨L,6 + i,none⟩ (int (m + melted hours melts n)) else w).drewN q:=by
 have g1:w.cell? ⟨L,3 + i,none⟩=some (int n):=(cell_of_row _ _ (3 + i) _ 125 (0,0) hL).trans hn
 have g2:w.cell? ⟨L,6 + i,none⟩=some (int m):=(cell_of_row _ _ (6 + i) _ 125 (0,0) hL).trans hm
 have g3:w.cell? ⟨L,0,none⟩=some A.gs:=(cell_of_row _ _ 0 _ 125 (0,0) hL).trans h0
 have g4:w.cell? ⟨L,2,none⟩=some A.hs:=(cell_of_row _ _ 2 _ 125 (0,0) hL).trans h2
 have f1:w.frozen? ⟨L,3 + i,none⟩=false:=by unfold World.frozen?;rw [hL];rfl
 have f2:w.frozen? ⟨L,6 + i,none⟩=false:=by unfold World.frozen?;rw [hL];rfl
 have hi3:(i:Int) < 3:=by omega
 by_cases hp : 0 < melts
 ·rw [if_pos hp]
  have hX:melted hours melts n=min n (hours / melts):=if_pos hp
  have hp1:((0:Int) < (melts:Int)):=by omega
  have hp2:¬ (melts:Int)=0:=by omega
  generalize melted hours melts n=X at hX ⊢
  obtain ⟨y,hy,hwq⟩:∃ y:Nat,y=hours / melts∧wrap64 ((hours:Int) / (melts:Int))=(y:Int):=by
   refine ⟨_,rfl,?_⟩
   have:hours / melts≤hours:=Nat.div_le_self _ _
   rw [← Int.natCast_ediv,IntWalk.wrap64_in _ (by omega)]
  rw [← hy] at hX
  clear hy
  clear hL h0 h2 hn hm
  obtain ⟨gb,go,ng,cg,hb,ho,nh,ch,mb,mo,nm,cm,db,dof,nd,cd⟩:=A
  simp only [Kit1.gs,Kit1.hs,int] at *
  by_cases hx:n≤y
  ·have hXn:X=n:=by omega
   subst hXn
   have t1:(X:Int)≤y:=Int.ofNat_le.2 hx
   have t2:¬ (y:Int) < X:=Int.not_lt.2 (Int.ofNat_le.2 hx)
   clear hX hx
   go_enter LK.func98,Try.ntmps98
   go_wp2_with fail
   go_quiet (fail)
   go_wp2_with fail
   have hS:(w.drewN nq).drew.cell? ⟨L,3 + i,none⟩=some (.int .i64 X)∧(w.drewN nq).drew.cell? ⟨L,6 + i,none⟩=some (.int .i64 m):=⟨g1,g2⟩
   refine wp_region_L (by kernel_rfl) (fun W=>W.cell? ⟨L,3 + i,none⟩=some (.int .i64 X)∧W.cell? ⟨L,6 + i,none⟩=some (.int .i64 m)) [23,27] ?_
   refine wpAnyL_p 0 ?_ rfl ?_ ?_;case refine_2=>(intro w _;go_simp;try rfl)
   refine wpAnyL_p 1 ?_ rfl ?_ ?_;case refine_2=>(intro w _;go_simp;try rfl)
   refine wpAnyL_p 2 ?_ rfl ?_ ?_;case refine_2=>(intro w _;go_simp;try rfl)
   refine wpAnyL_p 3 ?_ rfl ?_ ?_;case refine_2=>(intro w _;go_simp;try rfl)
   refine wpAnyL_p 4 ?_ rfl ?_ ?_;case refine_2=>(intro w _;go_simp;try rfl)
   refine wpAnyL_p 5 ?_ rfl ?_ ?_;case refine_2=>(intro w _;go_simp;try rfl)
   refine wpAnyL_p 6 ?_ rfl ?_ ?_;case refine_2=>(intro w _;go_simp;try rfl)
   refine wpAnyL_p 7 ?_ rfl ?_ ?_;case refine_2=>(intro w _;go_simp;try rfl)
   refine wpAnyL_p 8 ?_ rfl ?_ ?_;case refine_2=>(intro w _;go_simp;try rfl)
   refine wpAnyL_t 9 ?_ rfl hS ?_ ?_;case refine_2=>(intro w hSw;(try dsimp only at hSw);go_simp;try rfl)
   refine wpAnyL_p 10 ?_ rfl ?_ ?_;case refine_2=>(intro w _;go_simp;try rfl)
   refine wpAnyL_p 11 ?_ rfl ?_ ?_;case refine_2=>(intro w _;go_simp;try rfl)
   refine wpAnyL_p 12 ?_ rfl ?_ ?_;case refine_2=>(intro w _;go_simp;try rfl)
   refine wpAnyL_p 13 ?_ rfl ?_ ?_;case refine_2=>(intro w _;go_simp;try rfl)
   refine wpAnyL_p 14 ?_ rfl ?_ ?_;case refine_2=>(intro w _;go_simp;try rfl)
   refine wpAnyL_p 15 ?_ rfl ?_ ?_;case refine_2=>(intro w _;go_simp;try rfl)
   refine wpAnyL_p 16 ?_ rfl ?_ ?_;case refine_2=>(intro w _;go_simp;try rfl)
   refine wpAnyL_t 17 ?_ rfl hS ?_ ?_;case refine_2=>(intro w hSw;(try dsimp only at hSw);go_simp;try rfl)
   refine wpAnyL_p 18 ?_ rfl ?_ ?_;case refine_2=>(intro w _;go_simp;try rfl)
   refine wpAnyL_p 19 ?_ rfl ?_ ?_;case refine_2=>(intro w _;go_simp;try rfl)
   refine wpAnyL_p 20 ?_ rfl ?_ ?_;case refine_2=>(intro w _;go_simp;try rfl)
   refine wpAnyL_p 21 ?_ rfl ?_ ?_;case refine_2=>(intro w _;go_simp;try rfl)
   refine wpAnyL_p 22 ?_ rfl ?_ ?_;case refine_2=>(intro w _;go_simp;try rfl)
   refine wpAnyL_p 24 ?_ rfl ?_ ?_;case refine_2=>(intro w _;go_simp;try rfl)
   refine wpAnyL_p 25 ?_ rfl ?_ ?_;case refine_2=>(intro w _;go_simp;try rfl)
   refine wpAnyL_late (i:=23) rfl (by kernel_rfl) (by rfl) ?_
   intro K hK
   go_simp
   refine hK.out _ _ ?_
   clear hK K
   refine wpAnyL_p 26 ?_ rfl ?_ ?_;case refine_2=>(intro w _;go_simp;try rfl)
   refine wpAnyL_late (i:=27) rfl (by kernel_rfl) (by rfl) ?_
   intro K hK
   go_simp
   refine hK.out _ _ ?_
   clear hK K
   refine wpAnyL_done (by kernel_rfl) ?_
   go_wp2_with fail
   go_ret
   refine ⟨rfl,?_⟩
   clear hwq
   have e1:IntKind.i64.wrap 0=((X - X:Nat):Int):=by rw [IntKind.wrap_i64];omega
   have e2:IntKind.i64.wrap ((m:Int) + X)=((m + X:Nat):Int):=by rw [IntKind.wrap_i64];omega
   rw [e1,e2]
   exact ⟨nq + 1,rfl⟩
  ·have hXy:X=y:=by omega
   subst hXy
   have t1:¬ (n:Int)≤X:=fun h=>hx (Int.ofNat_le.1 h)
   have t2:(X:Int) < n:=Int.ofNat_lt.2 (Nat.lt_of_not_le hx)
   clear hX hx
   go_enter LK.func98,Try.ntmps98
   go_wp2_with fail
   go_quiet (fail)
   go_wp2_with fail
   have hS:(w.drewN nq).drew.cell? ⟨L,3 + i,none⟩=some (.int .i64 n)∧(w.drewN nq).drew.cell? ⟨L,6 + i,none⟩=some (.int .i64 m):=⟨g1,g2⟩
   refine wp_region_L (by kernel_rfl) (fun W=>W.cell? ⟨L,3 + i,none⟩=some (.int .i64 n)∧W.cell? ⟨L,6 + i,none⟩=some (.int .i64 m)) [23,27] ?_
   refine wpAnyL_p 0 ?_ rfl ?_ ?_;case refine_2=>(intro w _;go_simp;try rfl)
   refine wpAnyL_p 1 ?_ rfl ?_ ?_;case refine_2=>(intro w _;go_simp;try rfl)
   refine wpAnyL_p 2 ?_ rfl ?_ ?_;case refine_2=>(intro w _;go_simp;try rfl)
   refine wpAnyL_p 3 ?_ rfl ?_ ?_;case refine_2=>(intro w _;go_simp;try rfl)
   refine wpAnyL_p 4 ?_ rfl ?_ ?_;case refine_2=>(intro w _;go_simp;try rfl)
   refine wpAnyL_p 5 ?_ rfl ?_ ?_;case refine_2=>(intro w _;go_simp;try rfl)
   refine wpAnyL_p 6 ?_ rfl ?_ ?_;case refine_2=>(intro w _;go_simp;try rfl)
   refine wpAnyL_p 7 ?_ rfl ?_ ?_;case refine_2=>(intro w _;go_simp;try rfl)
   refine wpAnyL_p 8 ?_ rfl ?_ ?_;case refine_2=>(intro w _;go_simp;try rfl)
   refine wpAnyL_t 9 ?_ rfl hS ?_ ?_;case refine_2=>(intro w hSw;(try dsimp only at hSw);go_simp;try rfl)
   refine wpAnyL_p 10 ?_ rfl ?_ ?_;case refine_2=>(intro w _;go_simp;try rfl)
   refine wpAnyL_p 11 ?_ rfl ?_ ?_;case refine_2=>(intro w _;go_simp;try rfl)
   refine wpAnyL_p 12 ?_ rfl ?_ ?_;case refine_2=>(intro w _;go_simp;try rfl)
   refine wpAnyL_p 13 ?_ rfl ?_ ?_;case refine_2=>(intro w _;go_simp;try rfl)
   refine wpAnyL_p 14 ?_ rfl ?_ ?_;case refine_2=>(intro w _;go_simp;try rfl)
   refine wpAnyL_p 15 ?_ rfl ?_ ?_;case refine_2=>(intro w _;go_simp;try rfl)
   refine wpAnyL_p 16 ?_ rfl ?_ ?_;case refine_2=>(intro w _;go_simp;try rfl)
   refine wpAnyL_t 17 ?_ rfl hS ?_ ?_;case refine_2=>(intro w hSw;(try dsimp only at hSw);go_simp;try rfl)
   refine wpAnyL_p 18 ?_ rfl ?_ ?_;case refine_2=>(intro w _;go_simp;try rfl)
   refine wpAnyL_p 19 ?_ rfl ?_ ?_;case refine_2=>(intro w _;go_simp;try rfl)
   refine wpAnyL_p 20 ?_ rfl ?_ ?_;case refine_2=>(intro w _;go_simp;try rfl)
   refine wpAnyL_p 21 ?_ rfl ?_ ?_;case refine_2=>(intro w _;go_simp;try rfl)
   refine wpAnyL_p 22 ?_ rfl ?_ ?_;case refine_2=>(intro w _;go_simp;try rfl)
   refine wpAnyL_p 24 ?_ rfl ?_ ?_;case refine_2=>(intro w _;go_simp;try rfl)
   refine wpAnyL_p 25 ?_ rfl ?_ ?_;case refine_2=>(intro w _;go_simp;try rfl)
   refine wpAnyL_late (i:=23) rfl (by kernel_rfl) (by rfl) ?_
   intro K hK
   go_simp
   refine hK.out _ _ ?_
   clear hK K
   refine wpAnyL_p 26 ?_ rfl ?_ ?_;case refine_2=>(intro w _;go_simp;try rfl)
   refine wpAnyL_late (i:=27) rfl (by kernel_rfl) (by rfl) ?_
   intro K hK
   go_simp
   refine hK.out _ _ ?_
   clear hK K
   refine wpAnyL_done (by kernel_rfl) ?_
   go_wp2_with fail
   go_ret
   refine ⟨rfl,?_⟩
   clear hwq
   have e1:IntKind.i64.wrap ((n:Int) - X)=((n - X:Nat):Int):=by rw [IntKind.wrap_i64];omega
   have e2:IntKind.i64.wrap ((m:Int) + X)=((m + X:Nat):Int):=by rw [IntKind.wrap_i64];omega
   rw [e1,e2]
   exact ⟨nq + 1,rfl⟩
 ·rw [if_neg hp]
  have hp1:¬ ((0:Int) < (melts:Int)):=by omega
  clear hL h0 h2 hn hm
  obtain ⟨gb,go,ng,cg,hb,ho,nh,ch,mb,mo,nm,cm,db,dof,nd,cd⟩:=A
  simp only [Kit1.gs,Kit1.hs,int] at *
  go_enter LK.func98,Try.ntmps98
  go_wp2_with fail
  go_ret
  exact ⟨rfl,0,rfl⟩
end
end Go.Gal
end
section
namespace Go.Gal
open Go Go.Par Go.Proofs Go.RowKit
def kv (p:Nat×Nat):Value:=.agg #[int p.1,int p.2]
abbrev Ent:=(Nat×Nat)×Value×Nat
def ents (es:List Ent):Array MapEntry:=(es.map fun e=>{ key:=kv e.1,val:=e.2.1,born:=e.2.2 }).toArray
def setMap (w:World) (g:Nat) (es:List Ent) (clock:Nat):World:={ w with heap:=w.heap.setIfInBounds g (.map (ents es) clock) }
section
variable {fs:Array Func}
theorem u161:(Pf fs).underlying 161=some (.array 2 3):=(like_under 161).trans Try.underlying161
theorem u158:(Pf fs).underlying 158=some (.map 161 141):=(like_under 158).trans Try.underlying158
theorem u3:(Pf fs).underlying 3=some (.int .i64):=(like_under 3).trans Try.underlying3
theorem plain3:(Pf fs).plainKey 3=true:=by
 unfold Program.plainKey
 rw [u3]
theorem part_int {w:World} {xs:Array Value} {off:Nat} {v:Value} (h:xs[off]? = some v):(part 3 xs off).run (Pf fs) w=.ok v w:=run_part_plain (P:=Pf fs) w plain3 h
theorem cells3:(Pf fs).cellsOf 3=1:=by
 have h:Try.prog.cellsOf 3=1:=by kernel_rfl
 exact h
theorem info3:∃ i,(Pf fs).info? 3=some i:=by
 have h:Try.prog.info? 3=some Try.t3:=by kernel_rfl
 exact ⟨_,h⟩
theorem eq_in (d:Nat) (p q:Nat×Nat) (w:World):(Op.equalIn (d + 2) 161 (kv p) (kv q)).run (Pf fs) w=.ok (p == q) w:=by
 obtain ⟨i,hi⟩:=info3 (fs:=fs)
 obtain ⟨a,b⟩:=p
 obtain ⟨c,e⟩:=q
 have ei:=fun (x y:Int)=>run_equalIn_int (P:=Pf fs) w d 3 .i64 .i64 x y u3
 have hpe:((a,b) == (c,e))=(a == c && b == e):=rfl
 rw [hpe]
 simp only [kv,int]
 rw [run_equalIn_array w (d + 1) _ _ u161 hi,cells3]
 have q1:(part 3 #[Value.int .i64 (a:Int),.int .i64 b] (0 * 1)).run (Pf fs) w=.ok (.int .i64 a) w:=part_int rfl
 have q2:(part 3 #[Value.int .i64 (a:Int),.int .i64 b] (1 * 1)).run (Pf fs) w=.ok (.int .i64 b) w:=part_int rfl
 have q3:(part 3 #[Value.int .i64 (c:Int),.int .i64 e] (0 * 1)).run (Pf fs) w=.ok (.int .i64 c) w:=part_int rfl
 have q4:(part 3 #[Value.int .i64 (c:Int),.int .i64 e] (1 * 1)).run (Pf fs) w=.ok (.int .i64 e) w:=part_int rfl
 have hr:List.range 2=[0,1]:=rfl
 rw [hr]
 simp only [Op.eqItems,Sem.run_bind,q1,q3,ei,Result.andThen_ok]
 have c1:((a:Int) == (c:Int))=(a == c):=by rw [Bool.eq_iff_iff];simp;omega
 have c2:((b:Int) == (e:Int))=(b == e):=by rw [Bool.eq_iff_iff];simp;omega
 rw [c1]
 have q2':(part 3 #[Value.int .i64 (a:Int),.int .i64 b] 1).run (Pf fs) w=.ok (.int .i64 b) w:=part_int rfl
 have q4':(part 3 #[Value.int .i64 (c:Int),.int .i64 e] 1).run (Pf fs) w=.ok (.int .i64 e) w:=part_int rfl
 cases (a == c)
 ·simp
 ·by_cases hbe:b=e
  ·subst hbe
   simp [q2',q4',ei]
  ·have hbe2:¬ (b:Int)=e:=fun h=>hbe (Int.ofNat.inj h)
   have hbe3:(b == e)=false:=by simpa using hbe
   simp [q2',q4',ei,hbe2,hbe3]
theorem equal_kv (p q:Nat×Nat) (w:World):(Op.equal 161 (kv p) (kv q)).run (Pf fs) w=.ok (p == q) w:=eq_in 9998 p q w
theorem find_asking (p:Nat×Nat) (w:World):∀ (es:List Ent) (i:Nat),
  (Instr.findAsking 161 (kv p) (es.map fun e=>{ key:=kv e.1,val:=e.2.1,born:=e.2.2 }) i).run (Pf fs) w=.ok ((es.zipIdx i).findSome? fun x=>if p=x.1.1 then some (x.2,x.1.2.1) else none) w
 | [],i=>by simp [Instr.findAsking]
 | e :: es,i=>by
  simp only [List.map_cons,Instr.findAsking,Sem.run_bind,equal_kv,Result.andThen_ok,Sem.run_ite,List.zipIdx_cons,List.findSome?_cons]
  by_cases h:p=e.1
  ·simp [h]
  ·have hb:(p == e.1)=false:=by simpa using h
   simp only [hb,h,if_false,Bool.false_eq_true]
   exact find_asking p w es (i + 1)
theorem find_key (p:Nat×Nat) (w:World) (es:List Ent) :
  (Instr.findKey 161 (kv p) (ents es).toList).run (Pf fs) w=.ok ((es.zipIdx 0).findSome? fun x=>if p=x.1.1 then some (x.2,x.1.2.1) else none) w:=by
 simp only [Instr.findKey,Sem.run_bind,run_underlying u161,Result.andThen_ok,ents]
 cases es with
 | nil=>simp [Instr.findNow]
 | cons e es =>
  have:Instr.findNow (.array 2 3) (kv p) (((e :: es).map fun e=>({ key:=kv e.1,val:=e.2.1,born:=e.2.2 } : MapEntry))) 0=none:=by
   simp [Instr.findNow,Instr.sameNow]
  rw [this]
  exact find_asking p w (e :: es) 0
theorem check_key (b:Bool) (p:Nat×Nat) (w:World):(Instr.checkKey b 10000 161 (kv p)).run (Pf fs) w=.ok () w:=by
 obtain ⟨a,c⟩:=p
 have hint:∀ (x:Int) (d:Nat),(Instr.checkKey b (d + 1) 3 (.int .i64 x)).run (Pf fs) w=.ok () w:=fun x d=>by
  simp [Instr.checkKey,run_underlying u3]
 have e:Instr.checkKey b 10000 161 (kv (a,c))=(do
  match ← underlying 161,kv (a,c) with
  | .interface _,.iface d x =>
   let info ← typeInfo d
   if !info.comparable then
    if b then runtimePanic (.unhashable d)
    runtimePanic (.error ("hash of unhashable type " ++ (← typeStr d)))
   Instr.checkKey b 9999 d x
  | .array len elem,.agg cs =>
   for i in [0:len] do Instr.checkKey b 9999 elem (← part elem cs (i * (← Go.sizeOf elem)))
  | .struct fields,.agg cs =>
   for f in fields do
    if f.name ≠ "_" then Instr.checkKey b 9999 f.type (← part f.type cs f.offset)
  | .interface _,.nilIface=>pure ()
  | .interface _,_ | .array _ _,_ | .struct _,_=>stuck "map key: not a value of its type"
  | _,_=>pure ()):=rfl
 rw [e]
 have hs:(Go.sizeOf 3).run (Pf fs) w=.ok 1 w:=(like_sizeOf 3 w).trans (Try.sizeOf3 w)
 have q1:(part 3 #[Value.int .i64 (a:Int),.int .i64 c] (0 * 1)).run (Pf fs) w=.ok (.int .i64 a) w:=part_int rfl
 have q2:(part 3 #[Value.int .i64 (a:Int),.int .i64 c] (1 * 1)).run (Pf fs) w=.ok (.int .i64 c) w:=part_int rfl
 have hr:List.range' 0 2=[0,1]:=rfl
 simp only [kv,int,Sem.run_bind,run_underlying u161,Result.andThen_ok,Std.Legacy.Range.forIn_eq_forIn_range',Std.Legacy.Range.size,Nat.sub_zero,Nat.add_one_sub_one,Nat.div_one,hr,List.forIn_cons,List.forIn_nil,hs,q1,q2,hint,Sem.run_pure]
def known (es:List Ent) (p:Nat×Nat):Option Value:=(es.find? fun e=>p == e.1).map (·.2.1)
theorem known_find (p:Nat×Nat):∀ (es:List Ent) (i:Nat),((es.zipIdx i).findSome? fun x=>if p=x.1.1 then some (x.2,x.1.2.1) else none).map Prod.snd=known es p
 | [],i=>rfl
 | e :: es,i=>by
  simp only [List.zipIdx_cons,List.findSome?_cons,known,List.find?_cons]
  by_cases h:p=e.1
  ·simp [h]
  ·have hb:(p == e.1)=false:=by simpa using h
   simp only [h,if_false,hb]
   exact known_find p es (i + 1)
theorem known_mem {es:List Ent} {p:Nat×Nat} {v:Value} (h:known es p=some v):∃ c,(p,v,c)∈es:=by
 unfold known at h
 cases hf:es.find? fun e=>p == e.1 with
 | none=>rw [hf] at h;cases h
 | some e =>
  rw [hf] at h
  have h1:=List.find?_some hf
  have h2:=List.mem_of_find?_eq_some hf
  simp at h1 h
  subst h1 h
  exact ⟨e.2.2,h2⟩
theorem known_none {es:List Ent} {p:Nat×Nat} (h:∀ e∈es,e.1≠p):known es p=none:=by
 unfold known
 rw [List.find?_eq_none.2 (fun e he=>by simpa using fun h2=>h e he h2.symm)]
 rfl
def zeroPlan:Value:=.agg #[.slice none 0 0,.int .i64 0,.bool false]
theorem run_look {w:World} {g:Nat} {es:List Ent} {clock:Nat} (h:w.heap[g]? = some (.map (ents es) clock)) (p:Nat×Nat) :
  (Instr.lookup 158 (.map (some g)) (kv p) true).run (Pf fs) w=.ok (.tuple #[(known es p).getD zeroPlan,.bool (known es p).isSome]) w:=by
 have hz:(zeroValue 141).run (Pf fs) w=.ok zeroPlan w:=(like_zero 141 w).trans (Try.zeroValue141 w)
 have hk:=known_find p es 0
 simp only [Instr.lookup,Sem.run_bind,run_underlying u158,Result.andThen_ok]
 simp only [getObj,Sem.run,h,Result.andThen_ok,Sem.run_bind,Sem.run_pure,check_key,find_key]
 cases hf:(es.zipIdx 0).findSome? fun x=>if p=x.1.1 then some (x.2,x.1.2.1) else none with
 | none=>rw [hf] at hk;simp [← hk,hz]
 | some j=>rw [hf] at hk;simp [← hk]
theorem run_put {w:World} {g:Nat} {es:List Ent} {clock:Nat} {p:Nat×Nat} {v:Value} (h:w.heap[g]? = some (.map (ents es) clock)) (hp:∀ e∈es,e.1≠p) :
  (Instr.mapUpdate 158 (.map (some g)) (kv p) v).run (Pf fs) w=.ok () (setMap w g (es ++ [(p,v,clock)]) (clock + 1)):=by
 have hk:=known_find p es 0
 rw [known_none hp] at hk
 have hn:((es.zipIdx 0).findSome? fun x=>if p=x.1.1 then some (x.2,x.1.2.1) else none)=none:=by
  cases hf:(es.zipIdx 0).findSome? fun x=>if p=x.1.1 then some (x.2,x.1.2.1) else none with
  | none=>rfl
  | some j=>rw [hf] at hk;cases hk
 simp only [Instr.mapUpdate,Sem.run_bind,run_underlying u158,Result.andThen_ok]
 simp only [getObj,setObj,Sem.run,h,Result.andThen_ok,Sem.run_bind,check_key,find_key,hn]
 simp [setMap,ents]
end
end Go.Gal
end
