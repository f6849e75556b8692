/- Walks: load; worlds that have only grown but for one block. Walks: the closures of run: what is loaded, what is used, and 'do'. Walks: run's deferred closure. Walks: slices.Clone of .. -/
import Derived.Test.YtlgiofglcgbjgaaM30
import Derived.Defers
import Derived.Recover
namespace Go.Gal
open Go Go.Par Go.Proofs Go.RowKit
section
structure But (L:Nat) (w w':World):Prop where
 size:w.heap.size≤w'.heap.size
 same:∀ b,b≠L→b<w.heap.size→w'.heap[b]?=w.heap[b]?
 os:w'.os=w.os
section
variable {L:Nat} {w w' w2:World}
theorem But.refl (L:Nat) (w:World):But L w w:=⟨Nat.le_refl _,fun _ _ _=>rfl,rfl⟩
theorem But.trans (h:But L w w') (k:But L w' w2):But L w w2:=⟨Nat.le_trans h.size k.size,fun b hb hl=>(k.same b hb (Nat.lt_of_lt_of_le hl h.size)).trans (h.same b hb hl),k.os.trans h.os⟩
theorem Grown.but (h:Grown w w') (L:Nat):But L w w':=⟨h.size,fun b _ hl=>h.same b hl,h.os⟩
theorem But.set (h:But L w w') (o:Nat) (v:Value):But L w (w'.setCell ⟨L,o,none⟩ v):=⟨by rw[zv];exact h.size,fun b hb hl=>(Below.heap_setCell _ _ _ _ hb).trans (h.same b hb hl),h.os⟩
theorem But.drewN (h:But L w w') (n:Nat):But L w (w'.drewN n):=⟨h.size,h.same,h.os⟩
theorem But.cell (h:But L w w') {b o:Nat} {v:Value} (hb:b≠L) (hc:w.cell? ⟨b,o,none⟩=some v):w'.cell? ⟨b,o,none⟩=some v:=
 (World.cell?_of_block (a:=⟨b,o,none⟩) (h.same b hb (qw hc))).trans hc
theorem But.block (h:But L w w') {b:Nat} {o:Obj} (hb:b≠L) (hc:w.heap[b]?=some o):w'.heap[b]?=some o:=(h.same b hb (zj hc)).trans hc
end
def barB (price room l n:Nat):Bool:=(decide (0<l)&&decide (price=0))||decide (room<n+l)
section
variable {fs:Array Func} [Like fs]
set_option maxRecDepth 20000 in
set_option maxHeartbeats 1000000 in
theorem load_any {A:Kit1} {i L:Nat} {cs:Array Value} (w:World) (h n l room price pb po np cp:Nat) (hL:w.heap[L]?=some (.cells cs 125 (0,0))) (h0:cs[0]?=some A.gs) (h2:cs[2]?=some A.hs) (hn:cs[3+i]?=some (int n)) (hi:i<A.ng) (hng:A.ng≤3) (hh:h<A.nh)
  (hr:w.cell? ⟨A.gb,A.go+i*4,none⟩=some (int room)) (hH:w.cell? ⟨A.hb,A.ho+h*3+2,none⟩=some (.slice (some ⟨pb,po,none⟩) np cp)) (hnp:i<np) (hP:w.cell? ⟨pb,po+i,none⟩=some (int price)) (hgb:A.gb≠L) (hhb:A.hb≠L) (hpb:pb≠L) (hn1:n≤255) (hl1:l≤255) :
  Calls (Pf fs) 96 #[.pointer (some ⟨L,0,none⟩),.int .i64 h,int i,int l] w fun e w'=>e=.returned (.bool (!barB price room l n))∧∃ q,w'=(w.setCell ⟨L,3+i,none⟩ (int (n+l))).drewN q:=by
 have hq:IntKind.i64.wrap ((n:Int)+(l:Int))=((n+l:Nat):Int):=by rw[IntKind.wrap_i64];omega
 have hc:w.cell? ⟨L,3+i,none⟩=some (int n):=(cell_of_row _ _ (3+i) _ 125 (0,0) hL).trans hn
 have hf:w.frozen? ⟨L,3+i,none⟩=false:=by unfold World.frozen?;rw[hL];rfl
 have hi3:(i:Int)<3:=by omega
 obtain⟨W,hW⟩:∃ W,W=w.setCell ⟨L,3+i,none⟩ (int (n+l)):=⟨_,rfl⟩
 have g1:W.cell? ⟨L,3+i,none⟩=some (int (n+l)):=by rw[hW];exact World.cell?_setCell_same _ _ _ hc
 have g2:W.cell? ⟨L,0,none⟩=some A.gs:=by rw[hW];exact (World.cell?_setCell_other _ _ _ _ (by simp<;>omega)).trans ((cell_of_row _ _ 0 _ 125 (0,0) hL).trans h0)
 have g5:W.cell? ⟨L,2,none⟩=some A.hs:=by rw[hW];exact (World.cell?_setCell_other _ _ _ _ (by simp<;>omega)).trans ((cell_of_row _ _ 2 _ 125 (0,0) hL).trans h2)
 have g3:W.cell? ⟨A.gb,A.go+i*4,none⟩=some (int room):=by rw[hW];exact (World.cell?_setCell_other _ _ _ _ (by simp<;>omega)).trans hr
 have g4:W.cell? ⟨A.hb,A.ho+h*3+2,none⟩=some (.slice (some ⟨pb,po,none⟩) np cp):=by rw[hW];exact (World.cell?_setCell_other _ _ _ _ (by simp<;>omega)).trans hH
 have g6:W.cell? ⟨pb,po+i,none⟩=some (int price):=by rw[hW];exact (World.cell?_setCell_other _ _ _ _ (by simp<;>omega)).trans hP
 clear hL h0 h2 hn hr hH hP
 obtain⟨gb,go,ng,cg,hb,ho,nh,ch,mb,mo,nm,cm,db,dof,nd,cd⟩:=A
 simp only[Kit1.gs,Kit1.hs,int] at *
 have HQ:=Lib.hid hq
 have hwe:w.setCell ⟨L,3+i,none⟩ (.int .i64 ((n:Int)+(l:Int)))=W:=by rw[hW,Int.natCast_add]
 have HWE:=Lib.hid hwe
 rw[← hW]
 clear hq hwe hW
 rcases Nat.lt_or_ge 0 l with hl0|hl0
 ·have t1:¬ (l:Int)=0:=by omega
  have t1':((l:Int)==0)=false:=by simp;omega
  by_cases hp:price=0
  ·have hbar:barB price room l n=true:=by simp[barB,hl0,hp]
   have HB:=Lib.hid hbar
   subst hp
   clear hbar
   go_enter LK.func96,Try.ntmps96
   go_wp2_with fail
   refine wp_region_still_tail 11 (by kernel_rfl) (by kernel_rfl) ?_
   simp only[List.take_succ_cons,List.take_zero,List.drop_succ_cons,List.drop_zero]
   change wpStill _ _ (World.drew _) (fun a'=>wpList _ _ _ _ a' (World.drew _)) _ _
   repeat still_step
   refine wpStill_nil ?_
   go_wp2_with fail
   rw[HWE.out]
   go_quiet (fail)
   go_wp2_with fail
   go_ret
   exact⟨by rw[HB.out];rfl,_,World.drewN_drew _ _⟩
  ·have t2:(0:Int)<(price:Int):=by omega
   have t2' : 0<price:=by omega
   by_cases hr2:n+l≤room
   ·have hbar:barB price room l n=false:=by simp[barB,hp];omega
    have HB:=Lib.hid hbar
    have t3:(n:Int)+(l:Int)≤(room:Int):=by omega
    clear hbar hp
    go_enter LK.func96,Try.ntmps96
    go_wp2_with fail
    refine wp_region_still_tail 11 (by kernel_rfl) (by kernel_rfl) ?_
    simp only[List.take_succ_cons,List.take_zero,List.drop_succ_cons,List.drop_zero]
    change wpStill _ _ (World.drew _) (fun a'=>wpList _ _ _ _ a' (World.drew _)) _ _
    repeat still_step
    refine wpStill_nil ?_
    go_wp2_with fail
    rw[HWE.out]
    go_quiet (fail)
    go_wp2_with fail
    go_ret
    exact⟨by rw[HB.out];rfl,_,World.drewN_drew _ _⟩
   ·have hbar:barB price room l n=true:=by simp[barB,hp];omega
    have HB:=Lib.hid hbar
    have t3:¬ (n:Int)+(l:Int)≤(room:Int):=by omega
    have hd:decide ((n:Int)+(l:Int)≤(room:Int))=false:=decide_eq_false t3
    have HD:=Lib.hid hd
    clear hd
    clear hbar hp
    go_enter LK.func96,Try.ntmps96
    go_wp2_with fail
    refine wp_region_still_tail 11 (by kernel_rfl) (by kernel_rfl) ?_
    simp only[List.take_succ_cons,List.take_zero,List.drop_succ_cons,List.drop_zero]
    change wpStill _ _ (World.drew _) (fun a'=>wpList _ _ _ _ a' (World.drew _)) _ _
    repeat still_step
    refine wpStill_nil ?_
    go_wp2_with fail
    rw[HWE.out]
    go_quiet (fail)
    go_wp2_with fail
    go_ret
    exact⟨by rw[HB.out];show Ending.returned (Value.bool (decide ((n:Int)+(l:Int)≤(room:Int))))=_;rw[HD.out];rfl,_,World.drewN_drew _ _⟩
 ·obtain rfl:l=0:=by omega
  have hwe:w.setCell ⟨L,3+i,none⟩ (.int .i64 (n:Int))=W:=by rw[← HWE.out];simp
  have HWE:=Lib.hid hwe
  clear hwe
  by_cases hr2:n≤room
  ·have hbar:barB price room 0 n=false:=by simp[barB];omega
   have HB:=Lib.hid hbar
   have t3:(n:Int)≤(room:Int):=by omega
   clear hbar hl0
   go_enter LK.func96,Try.ntmps96
   go_wp2_with fail
   refine wp_region_still_tail 11 (by kernel_rfl) (by kernel_rfl) ?_
   simp only[List.take_succ_cons,List.take_zero,List.drop_succ_cons,List.drop_zero]
   change wpStill _ _ (World.drew _) (fun a'=>wpList _ _ _ _ a' (World.drew _)) _ _
   repeat still_step
   refine wpStill_nil ?_
   go_wp2_with fail
   rw[HWE.out]
   go_quiet (fail)
   go_wp2_with fail
   go_ret
   exact⟨by rw[HB.out];rfl,_,World.drewN_drew _ _⟩
  ·have hbar:barB price room 0 n=true:=by simp[barB];omega
   have HB:=Lib.hid hbar
   have t3:¬ (n:Int)≤(room:Int):=by omega
   clear hbar hl0
   go_enter LK.func96,Try.ntmps96
   go_wp2_with fail
   refine wp_region_still_tail 11 (by kernel_rfl) (by kernel_rfl) ?_
   simp only[List.take_succ_cons,List.take_zero,List.drop_succ_cons,List.drop_zero]
   change wpStill _ _ (World.drew _) (fun a'=>wpList _ _ _ _ a' (World.drew _)) _ _
   repeat still_step
   refine wpStill_nil ?_
   go_wp2_with fail
   rw[HWE.out]
   go_quiet (fail)
   go_wp2_with fail
   go_ret
   exact⟨by rw[HB.out];rfl,_,World.drewN_drew _ _⟩
end
end
section
section
variable {fs:Array Func} [Like fs]
set_option maxRecDepth 20000 in
theorem n97_any {lb hb:Nat} (w:World) {ls:List (List Int)} {A:Option Addr} {c h i:Nat} {l:List Int} {x:Int} (c1:w.cell? ⟨lb,0,none⟩=some (.slice A ls.length c)) (c2:w.cell? ⟨hb,0,none⟩=some (int h)) (hd:DishesAt w A ls) (hl:ls[h]?=some l) (hx:l[i]?=some x) :
  Calls (Pf fs) 97 #[int i,.pointer (some ⟨lb,0,none⟩),.pointer (some ⟨hb,0,none⟩)] w fun e w'=>e=.returned (.int .i64 x)∧w'=w:=by
 obtain⟨b,off,rfl,A2,c3,k1,k2,k3⟩:=hd h l hl
 obtain⟨b2,off2,rfl,k4⟩:=k2 i x hx
 have hh:(h:Int)<(ls.length:Int):=by have:=(List.getElem?_eq_some_iff.1 hl).1;omega
 have hi:(i:Int)<(l.length:Int):=by have:=(List.getElem?_eq_some_iff.1 hx).1;omega
 clear hd k2 hl hx
 unfold int at *
 go_enter LK.func97,Try.ntmps97
 go_wp2_with fail
 go_ret
 exact⟨rfl,rfl⟩
theorem n99_any (i:Nat) (w:World):Calls (Pf fs) 99 #[int i] w fun e w'=>e=.returned (.int .i64 0)∧w'=w:=by
 unfold int
 go_enter LK.func99,Try.ntmps99
 go_wp2_with fail
 go_ret
 exact⟨rfl,rfl⟩
theorem n101_any {A:Kit1} {kb mb hb:Nat} {i h:Nat} {H:Haul1} {X:Nat→Prop} (w:World) (k:HaulAt w X A.hb A.ho A.mb A.mo A.db A.dof A.nd i h H) (hh:h<A.nh) (hm:h<A.nm)
  (c0:w.cell? ⟨kb,0,none⟩=some A.gs) (c1:w.cell? ⟨kb,1,none⟩=some A.ds) (c2:w.cell? ⟨kb,2,none⟩=some A.hs) (c3:w.cell? ⟨mb,0,none⟩=some A.m) (c4:w.cell? ⟨hb,0,none⟩=some (int h)) :
  Calls (Pf fs) 101 #[int i,.pointer (some ⟨kb,0,none⟩),.pointer (some ⟨mb,0,none⟩),.pointer (some ⟨hb,0,none⟩)] w fun e w'=>e=.returned (int (H.covers*H.need))∧Grown w w':=by
 have hu:=zah (fs:=fs) w k hh hm
 have HU:=Lib.hid hu
 clear hu k
 unfold Kit1.k at HU
 unfold int at *
 go_enter LK.func101,Try.ntmps101
 go_wp2_with (go_at_call 75;refine HU.out.mono ?_;rintro e w1 ⟨rfl,hg⟩)
 go_ret
 exact⟨rfl,Grown.below hg⟩
end
section
variable {fs:Array Func} [LikeS fs]
def DoPost (L ng h:Nat) (er:Int) (ok:Nat→Bool) (cs:Nat→Array Value) (w:World) (e:Ending) (w':World):Prop:=
 But L w w'∧((e=.returned (.tuple #[])∧(∀ i,i<ng→ok i=true)∧w'.heap[L]?=some (.cells (cs ng) 125 (0,0))) ∨
  ∃ i,i<ng∧(∀ j,j<i→ok j=true)∧ok i=false∧e=.panicked [{ v:=.iface 99 (.agg #[int h,int i,.int .i64 er]),recovered:=false }])
set_option maxRecDepth 20000 in
set_option maxHeartbeats 1000000 in
theorem zdK (F G:FuncId) (cap:Array Value) (hF:∀ args wr,(callFunc F args).run (Pf fs) wr=.ok (.enter F args) wr) (hG:∀ args wr,(callFunc G args).run (Pf fs) wr=.ok (.enter G args) wr) (er:Int) {kb lb hb L ng gc h:Nat} {gA:Option Addr} (w:World) (hng:ng≤3)
  (c1:w.cell? ⟨kb,0,none⟩=some (.slice gA ng gc)) (c2:w.cell? ⟨lb,0,none⟩=some (.pointer (some ⟨L,0,none⟩))) (c3:w.cell? ⟨hb,0,none⟩=some (int h)) (_n1:kb≠L) (n2:lb≠L) (n3:hb≠L)
  (cs:Nat→Array Value) (nv:Nat→Nat) (ok:Nat→Bool) (hL:w.heap[L]?=some (.cells (cs 0) 125 (0,0)))
  (hn:∀ i W,i<ng→But L w W→Calls (Pf fs) G (#[int i]++cap) W fun e w'=>e=.returned (int (nv i))∧Grown W w')
  (hw:∀ i W,i<ng→But L w W→W.heap[L]?=some (.cells (cs i) 125 (0,0))→Calls (Pf fs) F #[.pointer (some ⟨L,0,none⟩),int h,int i,int (nv i)] W fun e w'=>e=.returned (.bool (ok i))∧But L W w'∧(ok i=true→w'.heap[L]?=some (.cells (cs (i+1)) 125 (0,0)))) :
  Calls (Pf fs) 95 #[.func (.func F) #[] #[],.func (.func G) #[] cap,.int .i64 er,.pointer (some ⟨kb,0,none⟩),.pointer (some ⟨lb,0,none⟩),.pointer (some ⟨hb,0,none⟩)] w (DoPost L ng h er ok cs w):=by
 have HN:=Lib.hid hn
 have HW:=Lib.hid hw
 have HL:=Lib.hid hL
 have HC2:=Lib.hid c2
 have HC3:=Lib.hid c3
 clear hn hw hL c2 c3
 go_enter LK.func95,Try.ntmps95
 go_wp2_with fail
 go_loopw [13] (fun i wr=>∃ n:Nat,n≤ng∧i=.int .i64 n∧Hid (But L w wr∧wr.heap[L]?=some (.cells (cs n) 125 (0,0))∧∀ j,j<n→ok j=true)) (fun i _=>ng-(intOf i).toNat)
 case atStart=>exact⟨0,Nat.zero_le _,rfl,But.refl _ _,HL.out,fun j hj=>absurd hj (Nat.not_lt_zero _)⟩
 case round =>
  obtain⟨n,hn,rfl,hR⟩:=hrel
  by_cases hlt:n<ng
  ·have hS:wr.drew.cell? ⟨lb,0,none⟩=some (.pointer (some ⟨L,0,none⟩))∧wr.drew.cell? ⟨hb,0,none⟩=some (.int .i64 h):=⟨hR.out.1.cell n2 HC2.out,hR.out.1.cell n3 HC3.out⟩
   have hb0:But L w wr:=hR.out.1
   have hl0:=hR.out.2.1
   have ha0:=Lib.hid hR.out.2.2
   have HB0:=Lib.hid hb0
   have HL0:=Lib.hid hl0
   clear hb0 hl0
   go_upto_region 3 with fail
   refine qh (by kernel_rfl) (fun W=>W.cell? ⟨lb,0,none⟩=some (.pointer (some ⟨L,0,none⟩))∧W.cell? ⟨hb,0,none⟩=some (.int .i64 h)) [] ?_
   refine zh 0 ?_ rfl ?_ ?_;case refine_2=>(intro w _;go_simp;try rfl)
   refine zx 1 ?_ rfl hS ?_ ?_;case refine_2=>(intro w hSw;(try dsimp only at hSw);go_simp;try rfl)
   refine zx 2 ?_ rfl hS ?_ ?_;case refine_2=>(intro w hSw;(try dsimp only at hSw);go_simp;try rfl)
   refine zh 3 ?_ rfl ?_ ?_;case refine_2=>(intro w _;go_simp;try rfl)
   refine zh 4 ?_ rfl ?_ ?_;case refine_2=>(intro w _;go_simp;try rfl)
   refine zh 5 ?_ rfl ?_ ?_;case refine_2=>(intro w _;go_simp;try rfl)
   refine zw (i:=6) rfl (by kernel_rfl) ?_
   intro Kq hKq
   go_simp
   refine (HN.out n wr.drew hlt (HB0.out.drewN 1)).mono ?_
   rintro e W4 ⟨rfl,hg4⟩
   have HB4:=Lib.hid ((HB0.out.drewN 1).trans (hg4.but L))
   have HL4:=Lib.hid (zf (w:=wr.drew) HL0.out hg4)
   have hS:W4.cell? ⟨lb,0,none⟩=some (.pointer (some ⟨L,0,none⟩))∧W4.cell? ⟨hb,0,none⟩=some (.int .i64 h):=⟨HB4.out.cell n2 HC2.out,HB4.out.cell n3 HC3.out⟩
   refine hKq.out _ _ hS (fun _=>?_)
   clear hKq Kq hg4
   refine zw (i:=7) rfl (by kernel_rfl) ?_
   intro Kq hKq
   go_simp
   refine (HW.out n W4 hlt HB4.out HL4.out).mono ?_
   rintro e W5 ⟨rfl,hb5,hl5⟩
   have HB5:=Lib.hid (HB4.out.trans hb5)
   have HL5:=Lib.hid hl5
   have hS:W5.cell? ⟨lb,0,none⟩=some (.pointer (some ⟨L,0,none⟩))∧W5.cell? ⟨hb,0,none⟩=some (.int .i64 h):=⟨HB5.out.cell n2 HC2.out,HB5.out.cell n3 HC3.out⟩
   refine hKq.out _ _ hS (fun _=>?_)
   clear hKq Kq hb5 hl5
   refine zx 8 ?_ rfl hS ?_ ?_;case refine_2=>(intro w hSw;(try dsimp only at hSw);go_simp;try rfl)
   refine qd (by kernel_rfl) ?_
   simp only[Act.put,List.getElem_toArray,List.getElem_cons_succ,List.getElem_cons_zero,List.setIfInBounds_toArray,List.set_cons_zero,List.set_cons_succ]
   obtain⟨q1,q2⟩:=hS
   cases hok:ok n
   ·have HOK:=Lib.hid hok
    clear hok
    go_wp2_with fail
    exact⟨rfl,HB5.out,Or.inr ⟨n,hlt,ha0.out,HOK.out,rfl⟩⟩
   ·have HOK:=Lib.hid hok
    clear hok
    go_wp2_with fail
    go_roundw
    case rel=>exact⟨n+1,by omega,by go_num,HB5.out,HL5.out HOK.out,fun j hj=>by
     rcases Nat.lt_or_ge j n with q|q
     ·exact ha0.out j q
     ·obtain rfl:j=n:=by omega
      exact HOK.out⟩
    case measure=>simp[intOf];omega
  ·obtain rfl:ng=n:=by omega
   go_wp2_with fail
   go_end0
   exact⟨hR.out.1,.inl ⟨rfl,hR.out.2.2,hR.out.2.1⟩⟩
end
end
section
section
variable {fs:Array Func} [LikeS fs]
omit [LikeS fs] in
theorem assert99 (v:Value) (W:World):(Instr.typeAssert (.iface 99 v) 20 99 true).run (Pf fs) W=.ok (.tuple #[v,.bool true]) W:=by
 simp[Instr.typeAssert,run_underlying ((like_under (fs:=fs) 99).trans Try.underlying99),go_sem]
set_option maxRecDepth 20000 in
theorem zbq (eb:Nat) (x y z:Int) (c0 c1 c2:Value) (older:List PanicEntry) (w:World) (hb:w.heap[eb]?=some (.cells #[c0,c1,c2] 99 (0,0))) :
  CallsD (Pf fs) 94 #[.pointer (some ⟨eb,0,none⟩)] (.panicking ({ v:=.iface 99 (.agg #[.int .i64 x,.int .i64 y,.int .i64 z]),recovered:=false }::older)) w fun e u' w' =>
   e=.returned (.tuple #[])∧u'=.panicking ({ v:=.iface 99 (.agg #[.int .i64 x,.int .i64 y,.int .i64 z]),recovered:=true }::older)∧But eb w w'∧w'.heap[eb]?=some (.cells #[.int .i64 x,.int .i64 y,.int .i64 z] 99 (0,0)):=by
 refine callsD_of_wpS LK.func94 rfl fun c₀ cs hu=>?_
 apply wpS_seq
 apply wpS_region
 simp[wpOpsS,go_sem,recoverD,hu,Try.ntmps94,Exit.thenS]
 simp only[Array.replicate_succ,Array.replicate_zero,List.push_toArray,List.append_toArray,List.nil_append,List.cons_append,List.setIfInBounds_toArray,List.set_cons_succ,List.set_cons_zero]
 refine wpS_of_wp ?_
 have y0:=za hb 0
 have y1:=za hb 1
 have y2:=za hb 2
 have f0:=zk hb 0
 have f1:=zk hb 1
 have f2:=zk hb 2
 have HB:=Lib.hid hb
 have hne:=zj hb
 have hne1:eb≠w.heap.size:=by omega
 simp only[List.getElem?_toArray,List.getElem?_cons_succ,List.getElem?_cons_zero] at y0 y1 y2
 clear hb
 have ha:=fun v W=>assert99 (fs:=fs) v W
 go_wp2_with fail
 have hfin:But eb w ((((w.setCell ⟨eb,0,none⟩ (.int .i64 x)).setCell ⟨eb,1,none⟩ (.int .i64 y)).setCell ⟨eb,2,none⟩ (.int .i64 z)).alloc (.cells #[.int .i64 x,.int .i64 y,.int .i64 z] 99))∧((((w.setCell ⟨eb,0,none⟩ (.int .i64 x)).setCell ⟨eb,1,none⟩ (.int .i64 y)).setCell ⟨eb,2,none⟩ (.int .i64 z)).alloc (.cells #[.int .i64 x,.int .i64 y,.int .i64 z] 99)).heap[eb]?=some (.cells #[.int .i64 x,.int .i64 y,.int .i64 z] 99 (0,0)):=
  ⟨((((But.refl eb w).set 0 _).set 1 _).set 2 _).trans ((Grown.alloc _ _).but eb),zt (qP HB.out _ _ _) _⟩
 have HF:=Lib.hid hfin
 clear hfin
 exact⟨rfl,_,rfl,_,results_none rfl _ _ _,rfl,rfl,HF.out⟩
set_option maxRecDepth 20000 in
theorem catch_idle (eb:Nat) (w:World) :
  CallsD (Pf fs) 94 #[.pointer (some ⟨eb,0,none⟩)] .returning w fun e u' w'=>e=.returned (.tuple #[])∧u'=.returning∧w'=w:=by
 refine callsD_of_wpS LK.func94 rfl fun c₀ cs hu=>?_
 apply wpS_seq
 apply wpS_region
 simp[wpOpsS,go_sem,recoverD,hu,Try.ntmps94,Exit.thenS]
 simp only[Array.replicate_succ,Array.replicate_zero,List.push_toArray,List.append_toArray,List.nil_append,List.cons_append,List.setIfInBounds_toArray,List.set_cons_succ,List.set_cons_zero]
 refine wpS_of_wp ?_
 go_wp2_with fail
 cases c₀
 simp_all [bodyPostS,results,Try.results94]
end
end
section
theorem Ints.toB {w:World} {A:Option Addr} {xs:List Int} (h:Ints w A xs):L.Ints w w.heap.size A xs:=fun k x hk=>by
 obtain⟨b,off,e,hc⟩:=h k x hk
 exact⟨b,off,e,qw hc,hc⟩
theorem Grown.by {w w':World} {r:Option Nat} (h:w.grownBy w' r) (B:World) (hB:Grown B w) (hr:∀ k,r=some k→B.heap.size≤k):Grown B w':=
 ⟨Nat.le_trans hB.size h.size,fun b hb=>(h.block b (Nat.lt_of_lt_of_le hb hB.size) (fun e=>by have:=hr b e.symm;omega)).trans (hB.same b hb),h.os.trans hB.os⟩
section
variable {fs:Array Func} [Like fs]
set_option maxRecDepth 20000 in
theorem YB (xs:List Int) (a:Addr) (c:Nat) (w:World) (h:Ints w (some a) xs) (hlen:xs.length≤1000) :
  Calls (Pf fs) 93 #[.slice (some a) xs.length c] w fun e w'=>∃ A c',e=.returned (.slice A xs.length c')∧Grown w w'∧L.OwnInts w' w.heap.size A c' xs:=by
 have q14:=fun a n m W=>Qw (fs:=fs) Try.underlying22 a n m W
 have HI:=Lib.hid h
 clear h
 go_enter LK.func93,Try.ntmps93
 go_wp2_with (at_builtin;refine L.wpl_app_ints rfl (.tmp 5) (.tmp 6) 22 rfl w.heap.size ((like_under 22).trans Try.underlying22) inf3 (some ⟨w.heap.size,0,none⟩) 0 [] rfl (World.ownsRow_lit w #[] 0 (Nat.le_refl _) (by decide) (by simp)) (w.alloc (.cells #[] 3)).heap.size (some a) c xs rfl (HI.out.grown (Grown.alloc _ _)).toB (by simp;omega) (by simp) ?_;intro A2 c2 w4 hown hg4 hat;have HO:=Lib.hid hown;have HG:=Lib.hid (Grown.by hg4 w (Grown.alloc _ _) (fun k hk=>by cases hk;exact Nat.le_refl _));clear hown hg4 hat)
 go_ret
 exact⟨A2,c2,rfl,HG.out,HO.out⟩
end
end
section
def atG (Ds:List Good1) (i:Nat):Good1:=Ds.getD i ⟨0,0,0,0,[]⟩
def hlG (D:Good1) (h:Nat):Haul1:=D.hauls.getD h ⟨0,0,0,0⟩
def ldN (ls:List (List Int)) (h i:Nat):Nat:=((ls.getD h []).getD i 0).toNat
section
variable (Ds:List Good1) (ls:List (List Int)) (h:Nat) (now:Nat→Nat) (i:Nat)
def barAt:Bool:=barB (hlG (atG Ds i) h).price (atG Ds i).room (ldN ls h i) (now i)
def Za:Nat:=melted (hlG (atG Ds i) h).hours (atG Ds i).melts (now i+ldN ls h i)
def ZR:Bool:=decide (after (atG Ds i) (hlG (atG Ds i) h) (now i+ldN ls h i)<(atG Ds i).reserve)
def nextN:Nat:=(after (atG Ds i) (hlG (atG Ds i) h) (now i+ldN ls h i)).toNat
end
def upd (f:Nat→Nat) (i v:Nat):Nat→Nat:=fun j=>if j=i then v else f j
def zy (i:Nat) (f g:Nat→Nat):Nat→Nat:=fun j=>if j<i then g j else f j
theorem yx (i:Nat) (f g:Nat→Nat):upd (zy i f g) i (g i)=zy (i+1) f g:=by
 funext j
 unfold upd zy
 by_cases h:j=i
 ·subst h
  rw[if_pos rfl,if_pos (by omega)]
 ·rw[if_neg h]
  by_cases h2:j<i
  ·rw[if_pos h2,if_pos (by omega)]
  ·rw[if_neg h2,if_neg (by omega)]
theorem yg (i:Nat) (f g:Nat→Nat):zy i f g i=f i:=by unfold zy;rw[if_neg (by omega)]
structure Ran where
 left:List (List Int)
 stop:Option (Nat×Nat×Int)
 mel:Nat→Nat
def runG (Ds:List Good1) (ls:List (List Int)):Nat→Nat→(Nat→Nat)→(Nat→Nat)→Ran
 | 0,_,_,mel=>⟨[],none,mel⟩
 | r+1,h,now,mel =>
  match (List.range Ds.length).find? (barAt Ds ls h now) with
  | some i=>⟨[],some (h,i,9),mel⟩
  | none=>match (List.range Ds.length).find? (ZR Ds ls h now) with
   | some i=>⟨[],some (h,i,11),mel⟩
   | none =>
    let R:=runG Ds ls r (h+1) (zy Ds.length now (nextN Ds ls h now)) (zy Ds.length mel fun i=>mel i+Za Ds ls h now i)
    ⟨((List.range Ds.length).map fun i=>((nextN Ds ls h now i:Nat):Int))::R.left,R.stop,R.mel⟩
def runOf (Ds:List Good1) (ls:List (List Int)) (nh:Nat):Ran:=runG Ds ls nh 0 (zy Ds.length (fun _=>0) fun i=>(atG Ds i).start) (fun _=>0)
theorem zbV (hours melts n:Nat):melted hours melts n≤n:=by
 unfold melted
 split
 ·exact Nat.min_le_left _ _
 ·exact Nat.zero_le _
theorem after_le (D:Good1) (H:Haul1) (x:Nat):after D H x≤x:=by
 rw[ZM]
 have:=zbV H.hours D.melts x
 have h0:(0:Int)≤((H.covers*H.need:Nat):Int):=Int.natCast_nonneg _
 omega
def qt (A:Kit1) (now mel:Nat→Nat):Array Value:=#[A.gs,A.ds,A.hs,int (now 0),int (now 1),int (now 2),int (mel 0),int (mel 1),int (mel 2)]
theorem yB {A:Kit1} {now mel:Nat→Nat} {i:Nat} (hi:i<3):(qt A now mel)[3+i]?=some (int (now i)):=by
 rcases i with _|_|_|i
 ·rfl
 ·rfl
 ·rfl
 ·omega
theorem larderC_mel {A:Kit1} {now mel:Nat→Nat} {i:Nat} (hi:i<3):(qt A now mel)[6+i]?=some (int (mel i)):=by
 rcases i with _|_|_|i
 ·rfl
 ·rfl
 ·rfl
 ·omega
theorem jV {A:Kit1} {now mel:Nat→Nat} {i:Nat} (hi:i<3) (v:Nat):(qt A now mel).setIfInBounds (3+i) (int v)=qt A (upd now i v) mel:=by
 rcases i with _|_|_|i
 ·rfl
 ·rfl
 ·rfl
 ·omega
theorem larderC_setMel {A:Kit1} {now mel:Nat→Nat} {i:Nat} (hi:i<3) (v:Nat):(qt A now mel).setIfInBounds (6+i) (int v)=qt A now (upd mel i v):=by
 rcases i with _|_|_|i
 ·rfl
 ·rfl
 ·rfl
 ·omega
theorem larderC_congr {A:Kit1} {f g f2 g2:Nat→Nat} (h1:∀ i,i<3→f i=f2 i) (h2:∀ i,i<3→g i=g2 i):qt A f g=qt A f2 g2:=by
 unfold qt
 rw[h1 0 (by omega),h1 1 (by omega),h1 2 (by omega),h2 0 (by omega),h2 1 (by omega),h2 2 (by omega)]
def zbA (w:World) (base:Nat) (A B:Option Addr) (l:List Int):Prop:=∀ (k:Nat) (x:Int),l[k]?=some x→∃ b off,B=some ⟨b,off,none⟩∧base≤b∧some b≠A.map (·.block)∧w.cell? ⟨b,off+k,none⟩=some (.int .i64 x)
def RowList (w:World) (base:Nat) (A:Option Addr) (c:Nat) (rows:List (List Int)):Prop:=
 ∃ cells:List Value,w.ownsRow base 22 1 (.slice A rows.length c) rows.length cells∧∀ (j:Nat) (l:List Int),rows[j]?=some l→∃ B c',cells[j]?=some (Value.slice B l.length c')∧l.length≤1000∧zbA w base A B l
theorem RowList.nil (w:World) (base:Nat):RowList w base none 0 []:=⟨[],⟨by simp,.inl ⟨rfl,rfl⟩⟩,fun j l h=>by simp at h⟩
theorem RowList.keep {w w':World} {base:Nat} {A:Option Addr} {c:Nat} {rows:List (List Int)} (h:RowList w base A c rows) (hk:∀ b,base≤b→b<w.heap.size→w'.heap[b]?=w.heap[b]?):RowList w' base A c rows:=by
 obtain⟨cells,h1,h2⟩:=h
 refine⟨cells,jc h1 fun k hb hl=>hk k (zV h1 hb).1 hl,fun j l hl=>?_⟩
 obtain⟨B,c',k1,k2,k3⟩:=h2 j l hl
 refine⟨B,c',k1,k2,fun k x hx=>?_⟩
 obtain⟨b,off,e1,e2,e3,e4⟩:=k3 k x hx
 exact⟨b,off,e1,e2,e3,(World.cell?_of_block (a:=⟨b,off+k,none⟩) (hk b e2 (qw e4))).trans e4⟩
theorem RowList.dishes {w:World} {base:Nat} {A:Option Addr} {c:Nat} {rows:List (List Int)} (h:RowList w base A c rows):DishesAt w A rows:=by
 obtain⟨cells,h1,h2⟩:=h
 intro j l hl
 obtain⟨B,c',k1,k2,k3⟩:=h2 j l hl
 have hj:j<rows.length:=(List.getElem?_eq_some_iff.1 hl).1
 rcases h1.2 with ⟨_,e⟩|⟨g,cap,cur,e,hg,hh,hn,hm,hsz,htk⟩
 ·omega
 ·injection e with e _ _
  subst e
  refine⟨g,0,rfl,B,c',?_,fun k x hx=>?_,k2⟩
  ·rw[Nat.zero_add,za hh j,← Array.getElem?_toList]
   rw[← htk,List.getElem?_take] at k1
   split at k1
   ·exact k1
   ·cases k1
  ·obtain⟨b,off,e1,_,_,e4⟩:=k3 k x hx
   exact⟨b,off,e1,e4⟩
section
variable {P:Program}
theorem wp_app_row {w:World} {o:Oper} {a:Act} {K:Act→World→Prop} {Q:Exit→Act→World→Prop} (s x:Operand)
  (ho:o.op=.call { callee:=.builtin .append,args:=#[s,x],argTypes:=#[32,32] }) (base:Nat) (ht:P.underlying 32=some (.slice 22)) (hi:(P.info? 22).map (fun i=>(i.zero,i.size,i.bytes))=some (some (.slice none 0 0),1,24))
  {A:Option Addr} {c:Nat} {rows:List (List Int)} (hs:a.eval s=.slice A rows.length c) (hR:RowList w base A c rows) {nb m c2:Nat} {l:List Int} {B:Option Addr} (hx:a.eval x=.slice (some ⟨nb,0,none⟩) 1 m) (hr:w.cell? ⟨nb,0,none⟩=some (.slice B l.length c2)) (hB:zbA w base A B l) (hl:l.length≤1000) (hlen:rows.length≤1000) (hbase:base≤w.heap.size)
  (h:∀ A2 c3 w',RowList w' base A2 c3 (rows++[l])→w.grownBy w' (Value.slice A rows.length c).ownBlock→K (a.put o.dst (.slice A2 (rows.length+1) c3)) w'):o.wp P a w K Q:=by
 obtain⟨i,h1,h2,h3,h4⟩:=info_parts hi
 obtain⟨cells,hrow,hcells⟩:=hR
 refine L.wp_append_any w s x 32 ho base 22 i _ 1 24 ht h1 h2 h3 h4 rfl (by omega) (.slice A rows.length c) rows.length cells hs hrow (nb+1) _ 1 m [.slice B l.length c2] hx
  ⟨by simp,fun _=>⟨_,rfl,by show nb<nb+1;omega,fun j u hj=>by
   rcases j with _|j
   ·simp at hj;subst hj;exact hr
   ·simp at hj⟩⟩
  (by intro u hu;simp at hu;subst hu;rfl) (by simp only[maxLen];omega) (by omega) hbase ?_
 intro v' w' hown' hg hat
 obtain⟨A2,c3,rfl⟩:=L.own_slice hown'
 rw[qu,qu] at hat
 refine h A2 c3 w' ⟨cells++[.slice B l.length c2],by simpa using hown',fun j l' hj=>?_⟩ hg
 have hclen:cells.length=rows.length:=by have:=hrow.1;simpa using this
 have keep:∀ B' l',zbA w base A B' l'→zbA w' base A2 B' l':=fun B' l' hI k x hx=>by
  obtain⟨b,off,e1,e2,e3,e4⟩:=hI k x hx
  have hb:=qw e4
  refine⟨b,off,e1,e2,?_,(World.cell?_of_block (a:=⟨b,off+k,none⟩) (hg.block b hb (by rw[qu];exact e3))).trans e4⟩
  rcases hat with e|e
  ·rw[e];exact e3
  ·rw[e];intro e5;injection e5 with e5;omega
 rcases Nat.lt_or_ge j rows.length with q|q
 ·rw[List.getElem?_append_left q] at hj
  obtain⟨B',c',k1,k2,k3⟩:=hcells j l' hj
  exact⟨B',c',by rw[List.getElem?_append_left (by omega)];exact k1,k2,keep _ _ k3⟩
 ·rw[List.getElem?_append_right q] at hj
  have hj0:j-rows.length=0:=by
   rcases hjj:j-rows.length with _|n
   ·rfl
   ·rw[hjj] at hj;simp at hj
  rw[hj0] at hj
  cases hj
  refine⟨B,c2,?_,hl,keep _ _ hB⟩
  rw[List.getElem?_append_right (by omega),hclen,hj0]
  rfl
end
theorem Yz {n i:Nat} {p:Nat→Bool} (h:(List.range n).find? p=some i):i<n∧p i=true∧∀ j,j<i→p j=false:=by
 have:=List.find?_range_eq_some.1 h
 obtain⟨h1,h2,h3⟩:=this
 exact⟨by simpa using h2,h1,fun j hj=>by simpa using h3 j hj⟩
theorem find_none {n:Nat} {p:Nat→Bool} (h:(List.range n).find? p=none):∀ i,i<n→p i=false:=fun i hi=>by
 have:=List.find?_eq_none.1 h i (by simpa using hi)
 simpa using this
end
section
structure RunIn (w0:World) (A:Kit1) (Ds:List Good1) (ls:List (List Int)) (lA:Option Addr):Prop where
 len:Ds.length=A.ng
 kit:∀ i D,Ds[i]?=some D→KitAt w0 (fun _=>True) A i D
 lsa:DishesAt w0 lA ls
 lsl:ls.length=A.nh
 lsr:∀ (h:Nat) l,ls[h]?=some l→l.length=A.ng∧∀ x∈l,0≤x∧x≤20
 room:∀ (i:Nat) D,Ds[i]?=some D→D.room≤20∧D.start≤D.room
structure RunCx (w0 w:World) (A:Kit1) (ls:List (List Int)) (lA:Option Addr) (lc kb mb sb lb hb L h:Nat):Prop where
 old:Grown w0 w
 hL:w0.heap.size≤L
 k0:w.cell? ⟨kb,0,none⟩=some A.gs
 k1:w.cell? ⟨kb,1,none⟩=some A.ds
 k2:w.cell? ⟨kb,2,none⟩=some A.hs
 m:w.cell? ⟨mb,0,none⟩=some A.m
 s:w.cell? ⟨sb,0,none⟩=some (.slice lA ls.length lc)
 l:w.cell? ⟨lb,0,none⟩=some (.pointer (some ⟨L,0,none⟩))
 h:w.cell? ⟨hb,0,none⟩=some (int h)
 ne:kb≠L∧mb≠L∧sb≠L∧lb≠L∧hb≠L
theorem RunCx.but {w0 w w':World} {A:Kit1} {ls:List (List Int)} {lA:Option Addr} {lc kb mb sb lb hb L h:Nat} (c:RunCx w0 w A ls lA lc kb mb sb lb hb L h) (b:But L w w'):RunCx w0 w' A ls lA lc kb mb sb lb hb L h:=by
 obtain⟨n1,n2,n3,n4,n5⟩:=c.ne
 exact⟨⟨Nat.le_trans c.old.size b.size,fun x hx=>(b.same x (by have:=c.hL;omega) (Nat.lt_of_lt_of_le hx c.old.size)).trans (c.old.same x hx),b.os.trans c.old.os⟩,c.hL,b.cell n1 c.k0,b.cell n1 c.k1,b.cell n1 c.k2,b.cell n2 c.m,b.cell n3 c.s,b.cell n4 c.l,b.cell n5 c.h,c.ne⟩
section
variable {fs:Array Func} [LikeS fs]
variable {w0 w:World} {A:Kit1} {Ds:List Good1} {ls:List (List Int)} {lA:Option Addr} {lc kb mb sb lb hb L h:Nat} {now mel:Nat→Nat}
theorem RunIn.at_ (R:RunIn w0 A Ds ls lA) {i:Nat} (hi:i<A.ng):Ds[i]?=some (atG Ds i):=by
 unfold atG
 rw[List.getD_eq_getElem?_getD,List.getElem?_eq_getElem (by rw[R.len];exact hi)]
 rfl
theorem RunIn.haul (R:RunIn w0 A Ds ls lA) {i:Nat} (hi:i<A.ng) (hh:h<A.nh):HaulAt w0 (fun _=>True) A.hb A.ho A.mb A.mo A.db A.dof A.nd i h (hlG (atG Ds i) h):=by
 have k:=R.kit i _ (R.at_ hi)
 refine k.hauls h _ ?_
 unfold hlG
 rw[List.getD_eq_getElem?_getD,List.getElem?_eq_getElem (by rw[k.len];exact hh)]
 rfl
theorem RunIn.ld (R:RunIn w0 A Ds ls lA) {i:Nat} (hi:i<A.ng) (hh:h<A.nh):∃ l,ls[h]?=some l∧l[i]?=some ((ldN ls h i:Nat):Int)∧ldN ls h i≤20:=by
 obtain⟨l,hl⟩:∃ l,ls[h]?=some l:=⟨_,List.getElem?_eq_getElem (by rw[R.lsl];exact hh)⟩
 obtain⟨r1,r2⟩:=R.lsr h l hl
 obtain⟨x,hx⟩:∃ x,l[i]?=some x:=⟨_,List.getElem?_eq_getElem (by omega)⟩
 obtain⟨b1,b2⟩:=r2 x (List.mem_of_getElem? hx)
 have e:ldN ls h i=x.toNat:=by unfold ldN;simp[List.getD,hl,hx]
 refine⟨l,hl,?_,by omega⟩
 rw[hx,e,Int.toNat_of_nonneg b1]
theorem do_load (R:RunIn w0 A Ds ls lA) (hng:A.ng≤3) (hh:h<A.nh) (cx:RunCx w0 w A ls lA lc kb mb sb lb hb L h) (hL:w.heap[L]?=some (.cells (qt A now mel) 125 (0,0))) (hn:∀ i,i<A.ng→now i≤20) :
  Calls (Pf fs) 95 #[.func (.func 96) #[] #[],.func (.func 97) #[] #[.pointer (some ⟨sb,0,none⟩),.pointer (some ⟨hb,0,none⟩)],.int .i64 9,.pointer (some ⟨kb,0,none⟩),.pointer (some ⟨lb,0,none⟩),.pointer (some ⟨hb,0,none⟩)] w
   (DoPost L A.ng h 9 (fun i=>!barAt Ds ls h now i) (fun i=>qt A (zy i now fun j=>now j+ldN ls h j) mel) w):=by
 obtain⟨n1,n2,n3,n4,n5⟩:=cx.ne
 refine zdK 96 97 _ (fun args wr=>LK.call96 args wr) (fun args wr=>LK.call97 args wr) 9 w hng cx.k0 cx.l cx.h n1 n4 n5 _ (fun i=>ldN ls h i) _ hL (fun i W hi hb=>?_) fun i W hi hb hW=>?_
 ·have c2:=cx.but hb
  obtain⟨l,hl,hx,_⟩:=R.ld hi hh
  refine (n97_any W c2.s c2.h (R.lsa.grown c2.old) hl hx).mono fun e w' ⟨e1,e2⟩=>⟨e1,by rw[e2];exact Grown.refl _⟩
 ·have c2:=cx.but hb
  obtain⟨_,_,_,hl20⟩:=R.ld hi hh
  have k:=(R.kit i _ (R.at_ hi)).mono (w1:=W) fun b o v hc=>c2.old.cell hc
  obtain⟨⟨pb,po,np,cp,d,nb,no,nn,cn,_,_,x1,x2,x3,x4,x5,_⟩,_⟩:=R.haul hi hh
  have y3:=c2.old.cell x3
  have y5:=c2.old.cell x5
  have hgb:A.gb≠L:=by have:=qw (R.kit i _ (R.at_ hi)).room;have:=cx.hL;omega
  have hhb:A.hb≠L:=by have:=qw x3;have:=cx.hL;omega
  have hpb:pb≠L:=by have:=qw x5;have:=cx.hL;omega
  have hi3:i<3:=by omega
  refine (load_any (A:=A) (i:=i) W h (now i) (ldN ls h i) (atG Ds i).room (hlG (atG Ds i) h).price pb po np cp hW rfl rfl ((yB hi3).trans (by rw[yg])) hi hng hh k.room y3 x4 y5 hgb hhb hpb (by have:=hn i hi;omega) (by omega)).mono fun e w' ⟨e1,q,e2⟩=>⟨e1,?_,fun _=>?_⟩
  ·rw[e2]
   exact ((But.refl L W).set _ _).drewN q
  ·rw[e2]
   show (W.setCell ⟨L,3+i,none⟩ _).heap[L]?=_
   rw[zR hW,jV hi3,← yx]
theorem zem (R:RunIn w0 A Ds ls lA) (hng:A.ng≤3) (hh:h<A.nh) (cx:RunCx w0 w A ls lA lc kb mb sb lb hb L h) (hL:w.heap[L]?=some (.cells (qt A now mel) 125 (0,0))) (hn:∀ i,i<A.ng→now i≤255) (hm:∀ i,i<A.ng→mel i≤1000000) :
  Calls (Pf fs) 95 #[.func (.func 98) #[] #[],.func (.func 99) #[] #[],.int .i64 0,.pointer (some ⟨kb,0,none⟩),.pointer (some ⟨lb,0,none⟩),.pointer (some ⟨hb,0,none⟩)] w
   (DoPost L A.ng h 0 (fun _=>true) (fun i=>qt A (zy i now fun j=>now j-melted (hlG (atG Ds j) h).hours (atG Ds j).melts (now j)) (zy i mel fun j=>mel j+melted (hlG (atG Ds j) h).hours (atG Ds j).melts (now j))) w):=by
 obtain⟨n1,n2,n3,n4,n5⟩:=cx.ne
 refine zdK 98 99 _ (fun args wr=>LK.call98 args wr) (fun args wr=>LK.call99 args wr) 0 w hng cx.k0 cx.l cx.h n1 n4 n5 _ (fun i=>0) _ hL (fun i W hi hb=>?_) fun i W hi hb hW=>?_
 ·exact (n99_any i W).mono fun e w' ⟨e1,e2⟩=>⟨e1,by rw[e2];exact Grown.refl _⟩
 ·have c2:=cx.but hb
  have k:=(R.kit i _ (R.at_ hi)).mono (w1:=W) fun b o v hc=>c2.old.cell hc
  have hk:=R.haul hi hh
  obtain⟨⟨pb,po,np,cp,d,nb,no,nn,cn,_,_,x1,x2,x3,x4,x5,_⟩,hr1,_⟩:=hk
  have hi3:i<3:=by omega
  refine (zdc (A:=A) (i:=i) (hours:=(hlG (atG Ds i) h).hours) (melts:=(atG Ds i).melts) W (now i) (mel i) hW rfl rfl ((yB hi3).trans (by rw[yg])) ((larderC_mel hi3).trans (by rw[yg])) hi hng hh k.melts (c2.old.cell x1) (by have:=hn i hi;omega) (hm i hi) (by omega) 0).mono fun e w' ⟨e1,q,e2⟩=>⟨e1,?_,fun _=>?_⟩
  ·rw[e2]
   split
   ·exact (((But.refl L W).set _ _).set _ _).drewN q
   ·exact (But.refl L W).drewN q
  ·rw[e2]
   have hs:=yx i now fun j=>now j-melted (hlG (atG Ds j) h).hours (atG Ds j).melts (now j)
   have ht:=yx i mel fun j=>mel j+melted (hlG (atG Ds j) h).hours (atG Ds j).melts (now j)
   split
   ·show ((W.setCell ⟨L,3+i,none⟩ _).setCell ⟨L,6+i,none⟩ _).heap[L]?=_
    rw[zR (zR hW _),jV hi3,larderC_setMel hi3,hs,ht]
   ·rename_i h0
    have e0:melted (hlG (atG Ds i) h).hours (atG Ds i).melts (now i)=0:=by unfold melted;rw[if_neg h0]
    show W.heap[L]?=_
    rw[hW,← hs,← ht,e0]
    congr 3
    ·funext j
     unfold upd
     split
     ·rename_i hj;subst hj;rw[yg];rfl
     ·rfl
    ·funext j
     unfold upd
     split
     ·rename_i hj;subst hj;rw[yg];rfl
     ·rfl
def usN (Ds:List Good1) (h i:Nat):Nat:=(hlG (atG Ds i) h).covers*(hlG (atG Ds i) h).need
theorem zeE (R:RunIn w0 A Ds ls lA) (hng:A.ng≤3) (hh:h<A.nh) (cx:RunCx w0 w A ls lA lc kb mb sb lb hb L h) (hL:w.heap[L]?=some (.cells (qt A now mel) 125 (0,0))) (hn:∀ i,i<A.ng→now i≤255) :
  Calls (Pf fs) 95 #[.func (.func 100) #[] #[],.func (.func 101) #[] #[.pointer (some ⟨kb,0,none⟩),.pointer (some ⟨mb,0,none⟩),.pointer (some ⟨hb,0,none⟩)],.int .i64 11,.pointer (some ⟨kb,0,none⟩),.pointer (some ⟨lb,0,none⟩),.pointer (some ⟨hb,0,none⟩)] w
   (DoPost L A.ng h 11 (fun i=>decide (((atG Ds i).reserve:Int)≤(now i:Int)-(usN Ds h i:Nat))) (fun i=>qt A (zy i now fun j=>((now j:Int)-(usN Ds h j:Nat)).toNat) mel) w):=by
 obtain⟨n1,n2,n3,n4,n5⟩:=cx.ne
 refine zdK 100 101 _ (fun args wr=>LK.call100 args wr) (fun args wr=>LK.call101 args wr) 11 w hng cx.k0 cx.l cx.h n1 n4 n5 _ (fun i=>usN Ds h i) _ hL (fun i W hi hb=>?_) fun i W hi hb hW=>?_
 ·have c2:=cx.but hb
  have k:=R.kit i _ (R.at_ hi)
  exact (n101_any W ((R.haul hi hh).all (w1:=W) fun b o v hc=>c2.old.cell hc) hh (by have:=k.nm;omega) c2.k0 c2.k1 c2.k2 c2.m c2.h).mono fun e w' ⟨e1,e2⟩=>⟨e1,e2⟩
 ·have c2:=cx.but hb
  have k:=(R.kit i _ (R.at_ hi)).mono (w1:=W) fun b o v hc=>c2.old.cell hc
  obtain⟨⟨pb,po,np,cp,d,nb,no,nn,cn,_,_,x1,x2,x3,x4,x5,_⟩,hr1,hr2,hr3,hr4⟩:=R.haul hi hh
  have hgb:A.gb≠L:=by have:=qw (R.kit i _ (R.at_ hi)).room;have:=cx.hL;omega
  have hi3:i<3:=by omega
  have hu:usN Ds h i≤65025:=Nat.le_trans (Nat.mul_le_mul hr2 hr4) (by decide)
  refine (zek (A:=A) (i:=i) (D:=atG Ds i) W h (now i) (usN Ds h i) hW rfl ((yB hi3).trans (by rw[yg])) hi hng k.reserve hgb (hn i hi) hu).mono fun e w' ⟨e1,q,e2⟩=>⟨e1,?_,fun hok=>?_⟩
  ·rw[e2]
   exact ((But.refl L W).set _ _).drewN q
  ·rw[e2]
   have h3:((atG Ds i).reserve:Int)≤(now i:Int)-(usN Ds h i:Nat):=of_decide_eq_true hok
   have e3:(Value.int .i64 ((now i:Int)-(usN Ds h i:Nat)))=int ((now i:Int)-(usN Ds h i:Nat)).toNat:=by
    unfold int
    rw[Int.toNat_of_nonneg (by omega)]
   show (W.setCell ⟨L,3+i,none⟩ _).heap[L]?=_
   rw[e3,zR hW,jV hi3]
   rw[yx i now fun j=>((now j:Int)-(usN Ds h j:Nat)).toNat]
end
end
end Go.Gal
