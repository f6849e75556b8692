/- A number ahead of loads: append([]int(one), rest...). -/
import Derived.Test.YtlgiofglcgbjgaaM25
namespace Go.Gal
open Go Go.Par Go.Proofs Go.RowKit
section
variable {fs:Array Func}
theorem u22':(Pf fs).underlying 22=some (.slice 3):=(like_under 22).trans Try.underlying22
theorem t3':∃ i,(Pf fs).info? 3=some i∧i.zero=some (.int .i64 0)∧i.size=1∧i.bytes=8:=by
 have h:Try.prog.info? 3=some Try.t3:=by kernel_rfl
 exact ⟨_,h,by kernel_rfl,by kernel_rfl,by kernel_rfl⟩
theorem next_small:∀ n,n < 17→Builtin.nextslicecap (1 + n) 1 * 8≤281474976710656:=by decide
theorem run_cons {w:World} {g k m:Nat} {l:List Nat} {s:Option Addr} (hG:w.heap[g]? = some (.cells #[.int .i64 k] 3 (0,0))) (hl:LoadsAt w l s m) (hlen:l.length < 17) :
  ∃ g2 m2 w',(Builtin.append_ #[22,22] 22 #[.slice (some ⟨g,0,none⟩) 1 1,.slice s l.length m]).run (Pf fs) w=.ok (.slice (some ⟨g2,0,none⟩) (k :: l).length m2) w'∧Grown w w'∧LoadsAt w' (k :: l) (some ⟨g2,0,none⟩) m2:=by
 obtain ⟨i,hi,hz,h1,h2⟩:=t3' (fs:=fs)
 rcases hl with ⟨rfl,rfl,rfl⟩ | ⟨hne,b,rfl,hlm,hmm,hb⟩
 ·refine ⟨g,1,w,?_,Grown.refl w,.inr ⟨by simp,g,rfl,by simp,by simp [maxLen],?_⟩⟩
  ·simp [go_sem,Builtin.append_,run_underlying u22',sizeOf,typeInfo,hi,Builtin.lenOf,Builtin.firstCells]
  ·rw [hG]
   simp [rowOf,Builtin.zeroCells,int]
 ·have hpos : 0 < l.length:=List.length_pos_iff.2 hne
  have hr:=run_append_grow (P:=Pf fs) (w:=w) 22 22 3 i (.int .i64 0) u22' hi hz ⟨g,0,none⟩ 1 1 [.int .i64 k] (by rw [h1];rfl) (fun j v hj=>by
   have h0:j=0:=by
    rcases j with _ | j
    ·rfl
    ·simp at hj
   subst h0
   simp at hj
   subst hj
   exact blk_cell hG 0) ⟨b,0,none⟩ l.length m (l.map int) (by rw [h1];simp) (fun j v hj=>by
   have:=blk_cell hb (0 + j)
   have h5:(rowOf l m)[0 + j]? = some v:=by
    unfold rowOf
    rw [Nat.zero_add,Array.getElem?_append_left (by
     have:=(List.getElem?_eq_some_iff.1 hj).1
     simpa using this)]
    simpa using hj
   have e:(⟨b,0,none⟩:Addr).add j=⟨b,0 + j,none⟩:=by simp [Addr.add];omega
   rw [e]
   exact this.trans h5) (by omega) (by omega) (by rw [h2];exact next_small _ hlen)
  have hl1:(k :: l).length=1 + l.length:=by rw [List.length_cons,Nat.add_comm]
  have hge:=grownCap_ge w (1 + l.length) 1 3
  have hle:=grownCap_le_maxLen w (1 + l.length) 1 3 (by simp only [maxLen];omega)
  refine ⟨w.heap.size,grownCap w (1 + l.length) 1 3,_,by rw [hl1];exact hr,?_,?_⟩
  ·exact ⟨(Grown.alloc w.drew _).size,(Grown.alloc w.drew _).same,rfl⟩
  ·refine .inr ⟨by simp,w.heap.size,rfl,by rw [hl1];exact hge,hle,?_⟩
   have hn:=heap_alloc_new w.drew (.cells ([Value.int .i64 (k:Int)].toArray ++ (l.map int).toArray ++ Builtin.zeroCells (Value.int .i64 0).cells (grownCap w (1 + l.length) 1 3 - (1 + l.length))) 3)
   have hro:∀ N,rowOf (k :: l) N=[Value.int .i64 (k:Int)].toArray ++ (l.map int).toArray ++ Builtin.zeroCells (Value.int .i64 0).cells (N - (1 + l.length)):=fun N=>by
    have e:((k :: l).map int).toArray=[Value.int .i64 (k:Int)].toArray ++ (l.map int).toArray:=by
     apply Array.ext'
     simp [int]
    unfold rowOf
    rw [hl1,e]
   rw [hro]
   exact hn
end
section
variable {P:Program}
theorem wpl_run {w w':World} {ops:Array Oper} {rest:List Oper} {o:Oper} {a:Act} {Q:Exit→Act→World→Prop} {v:Value} (hgd:o.guard=none) (hr:(execOp a.eval o).run P w=.ok (.value v) w') (h:wpList P ops Q rest (a.put o.dst v) w'):wpList P ops Q (o :: rest) a w:=
 wpList_plain hgd fun K hK=>by
  simp only [Oper.wp,hr,Oper.upon]
  exact hK _ _ h
end
section
variable {fs:Array Func}
theorem wpl_cons {w:World} {ops:Array Oper} {rest:List Oper} {o:Oper} {a:Act} {Q:Exit→Act→World→Prop} (hgd:o.guard=none) (s x:Operand) (ho:o.op=.call { callee:=.builtin .append,args:=#[s,x],argTypes:=#[22,22] }) (hty:o.type=22)
  {g k m:Nat} {l:List Nat} {sx:Option Addr} (hs:a.eval s=.slice (some ⟨g,0,none⟩) 1 1) (hx:a.eval x=.slice sx l.length m) (hG:w.heap[g]? = some (.cells #[.int .i64 k] 3 (0,0))) (hl:LoadsAt w l sx m) (hlen:l.length < 17)
  (h:∀ g2 m2 w',Grown w w'→LoadsAt w' (k :: l) (some ⟨g2,0,none⟩) m2→wpList (Pf fs) ops Q rest (a.put o.dst (.slice (some ⟨g2,0,none⟩) (k :: l).length m2)) w'):wpList (Pf fs) ops Q (o :: rest) a w:=by
 obtain ⟨g2,m2,w',hr,hg,hl2⟩:=run_cons (fs:=fs) hG hl hlen
 refine wpl_run (v:=.slice (some ⟨g2,0,none⟩) (k :: l).length m2) (w':=w') hgd ?_ (h g2 m2 w' hg hl2)
 unfold execOp
 have hm:(#[s,x]:Array Operand).map a.eval=#[a.eval s,a.eval x]:=by simp
 simp only [ho,resolve,hm,hs,hx,hty]
 show (do pure (.value (← Builtin.append_ #[22,22] 22 #[.slice (some ⟨g,0,none⟩) 1 1,.slice sx l.length m])):Sem Go.Next).run (Pf fs) w = _
 rw [Sem.run_bind,hr]
 rfl
end
end Go.Gal
