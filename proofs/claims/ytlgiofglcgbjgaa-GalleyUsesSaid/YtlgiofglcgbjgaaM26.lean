/- Walks: 'from' where the plan is not known: its loop. (By gen_from.py.) -/
import Derived.Test.YtlgiofglcgbjgaaM25
namespace Go.Gal
open Go Go.Par Go.Proofs Go.RowKit
section
variable {fs:Array Func} [Like fs]
set_option maxRecDepth 20000 in
set_option maxHeartbeats 8000000 in
theorem from_walk {A:Kit1} {i:Nat} {D:Good1} {kB nB gB oB mB fB M:Nat} (h t:Nat) (hh:h<A.nh) (ht:t≤255) (w:World) (es:List Ent) (ck:Nat) (K:Kn w A i D kB nB gB oB mB fB M es ck) (hv:known es (h,t)=none)
  (IH:∀ t' w' es' ck',t'≤255→Kn w' A i D kB nB gB oB mB fB M es' ck'→Calls (Pf fs) 127 #[kv (h+1,t'),ptr kB,ptr nB,ptr gB,ptr oB,ptr mB,ptr fB] w' (je A i D kB nB gB oB mB fB M es' (h+1) t' w')) :
  Calls (Pf fs) 127 #[kv (h,t),ptr kB,ptr nB,ptr gB,ptr oB,ptr mB,ptr fB] w (je A i D kB nB gB oB mB fB M es h t w):=by
 have hw1:Grown w ((w.alloc (.cells #[int h,int t] 161)).alloc (.cells #[.slice none 0 0,.int .i64 0,.bool false] 141)):=(Grown.alloc _ _).trans (.alloc _ _)
 have hw2:Grown w (((w.alloc (.cells #[int h,int t] 161)).alloc (.cells #[.slice none 0 0,.int .i64 0,.bool false] 141)).alloc (.cells #[.slice none 0 0,.int .i64 0,.bool false] 141)):=hw1.trans (.alloc _ _)
 have K1:=K.grown hw1
 have K2:=K.grown hw2
 obtain⟨H,hH⟩:∃ H,D.hauls[h]?=some H:=⟨_,List.getElem?_eq_getElem (by rw[K.kit.len];exact hh)⟩
 have hd:D.hauls.drop h=H::D.hauls.drop (h+1):=by
  obtain⟨h1,h2⟩:=List.getElem?_eq_some_iff.1 hH
  rw[List.drop_eq_getElem_cons h1,h2]
 have hat:=K.kit.hauls h H hH
 have hat':=hat
 obtain⟨⟨pb,po,np,cp,d,nb,no,nn,cn,_,_,c1,c2,c3,c4,c5,c6,c7,c8,c9,c10⟩,q1,q2,q3,q4⟩:=hat'
 have k1:((w.alloc (.cells #[int h,int t] 161)).alloc (.cells #[.slice none 0 0,.int .i64 0,.bool false] 141)).cell? ⟨kB,2,none⟩=some A.hs:=cell_of_row _ _ 2 _ 29 (0,0) K1.bk
 have k2:((w.alloc (.cells #[int h,int t] 161)).alloc (.cells #[.slice none 0 0,.int .i64 0,.bool false] 141)).cell? ⟨nB,0,none⟩=some (.map (some M)):=cell_of_row _ _ 0 _ 158 (0,0) K1.bn
 have k3:(((w.alloc (.cells #[int h,int t] 161)).alloc (.cells #[.slice none 0 0,.int .i64 0,.bool false] 141)).alloc (.cells #[.slice none 0 0,.int .i64 0,.bool false] 141)).cell? ⟨kB,2,none⟩=some A.hs:=cell_of_row _ _ 2 _ 29 (0,0) K2.bk
 have k3':∀ q,((((w.alloc (.cells #[int h,int t] 161)).alloc (.cells #[.slice none 0 0,.int .i64 0,.bool false] 141)).drewN q).alloc (.cells #[.slice none 0 0,.int .i64 0,.bool false] 141)).cell? ⟨kB,2,none⟩=some A.hs:=fun q=>k3
 have c1':∀ q,((((w.alloc (.cells #[int h,int t] 161)).alloc (.cells #[.slice none 0 0,.int .i64 0,.bool false] 141)).drewN q).alloc (.cells #[.slice none 0 0,.int .i64 0,.bool false] 141)).cell? ⟨A.hb,A.ho+h*3,none⟩=some (int H.hours):=fun q=>cell_alloc (.cells #[.slice none 0 0,.int .i64 0,.bool false] 141) (cell_alloc (.cells #[.slice none 0 0,.int .i64 0,.bool false] 141) (cell_alloc (.cells #[int h,int t] 161) c1))
 have c2':∀ q,((((w.alloc (.cells #[int h,int t] 161)).alloc (.cells #[.slice none 0 0,.int .i64 0,.bool false] 141)).drewN q).alloc (.cells #[.slice none 0 0,.int .i64 0,.bool false] 141)).cell? ⟨A.hb,A.ho+h*3+1,none⟩=some (int H.covers):=fun q=>cell_alloc (.cells #[.slice none 0 0,.int .i64 0,.bool false] 141) (cell_alloc (.cells #[.slice none 0 0,.int .i64 0,.bool false] 141) (cell_alloc (.cells #[int h,int t] 161) c2))
 have c3':∀ q,((((w.alloc (.cells #[int h,int t] 161)).alloc (.cells #[.slice none 0 0,.int .i64 0,.bool false] 141)).drewN q).alloc (.cells #[.slice none 0 0,.int .i64 0,.bool false] 141)).cell? ⟨A.hb,A.ho+h*3+2,none⟩=some (.slice (some ⟨pb,po,none⟩) np cp):=fun q=>cell_alloc (.cells #[.slice none 0 0,.int .i64 0,.bool false] 141) (cell_alloc (.cells #[.slice none 0 0,.int .i64 0,.bool false] 141) (cell_alloc (.cells #[int h,int t] 161) c3))
 have e1:=fun (x y:Operand) (a b:Array Value)=>guard161 (fs:=fs) x y a b
 have e2:∀ W,(Op.equalIn 10000 161 (.agg #[.int .i64 h,.int .i64 t]) (.agg #[.int .i64 A.nh,.int .i64 t])).run (Pf fs) W=.ok false W:=fun W=>by
  rw[JA]
  have:¬ h=A.nh:=by omega
  simp[this]
 have e3:∀ q,(Instr.lookup 158 (.map (some M)) (.agg #[.int .i64 h,.int .i64 t]) true).run (Pf fs) (((w.alloc (.cells #[int h,int t] 161)).alloc (.cells #[.slice none 0 0,.int .i64 0,.bool false] 141)).drewN q)=.ok (.tuple #[.agg #[.slice none 0 0,.int .i64 0,.bool false],.bool false]) (((w.alloc (.cells #[int h,int t] 161)).alloc (.cells #[.slice none 0 0,.int .i64 0,.bool false] 141)).drewN q):=fun q=>by
  have:=zcT (fs:=fs) (w:=(((w.alloc (.cells #[int h,int t] 161)).alloc (.cells #[.slice none 0 0,.int .i64 0,.bool false] 141)).drewN q)) (g:=M) (es:=es) (clock:=ck) K1.map (h,t)
  rw[hv] at this
  exact this
 have HK:=Lib.hid K
 have HD:=Lib.hid hd
 have HH:=Lib.hid hH
 have HAT:=Lib.hid hat
 have HC6:=Lib.hid c5
 have HIH:=Lib.hid IH
 have HV:=Lib.hid hv
 have HQ:=Lib.hid (And.intro q1 (And.intro q2 (And.intro q3 q4)))
 generalize hP:je A i D kB nB gB oB mB fB M es h t w=R
 have HP:=Lib.hid hP
 generalize hhs:D.hauls.drop (h+1)=hs at HD
 have HHS:=Lib.hid hhs
 clear K K1 K2 hw1 hw2 hP hv IH hH hd hat c5 c6 c7 c8 c9 c10 q1 q2 q3 q4 hhs k3 c1 c2 c3
 simp only[kv,ptr,int,Kit1.hs] at k1 k2 k3' c1' c2' c3' e1 e2 e3 ⊢
 go_enter LK.func127,Try.ntmps127
 go_wp2_with fail
 go_quiet (fail)
 go_wp2_with fail
 go_loopw [15] (fun n wr=>∃ (k:Nat) (es':List Ent) (ck':Nat) (s:Option Addr) (m:Nat),n=.int .i64 k∧Hid (LoopAt A i D kB nB gB oB mB fB M es h t H hs (.slice (some ⟨pb,po,none⟩) np cp) w k wr es' ck' s m)) (fun n _=>tries D H t-(intOf n).toNat)
 case atStart=>exact⟨0,es,ck,none,0,rfl,LoopAt.start HK.out nq⟩
 case round =>
  obtain⟨k,es',ck',s,m,rfl,L⟩:=hrel
  clear k1 k2 k3' c1' c2' c3' e2 e3
  have hroom:D.room≤255:=HK.out.kit.room1
  have hkt:=L.out.hk
  have htl:=zcP D H t
  have hk255:k≤256:=by omega
  have hwr:IntKind.i64.wrap ((t:Int)+(k:Int))=((t+k:Nat):Int):=by rw[IntKind.wrap_i64];omega
  have z1:wr.cell? ⟨gB,0,none⟩=some (.int .i64 D.room):=za L.out.kn.bg 0
  by_cases hin:t+k≤D.room
  ·have tin:((t+k:Nat):Int)≤(D.room:Int):=Int.ofNat_le.2 hin
   have z2:wr.cell? ⟨w.heap.size+1+1+1,2,none⟩=some (.slice (some ⟨pb,po,none⟩) np cp):=za L.out.bh 2
   have z3:wr.cell? ⟨oB,0,none⟩=some (.int .i64 i):=za L.out.kn.bo 0
   have z4:wr.cell? ⟨pb,po+i,none⟩=some (.int .i64 H.price):=L.out.turn.cell HK.out.noCells HC6.out
   by_cases hp0 : 0<k∧H.price=0
   ·have hkn:k=tries D H t:=tries_free hkt hp0.1 hp0.2
    have t1:((0:Int)<(k:Int)):=by omega
    have t2:(H.price:Int)=0:=by omega
    have HL:=L
    have hab:=HL.out.absent HV.out
    have e5:(Instr.mapUpdate 158 (.map (some M)) (.agg #[.int .i64 h,.int .i64 t]) (.agg #[.slice s (zz D H hs t k).1.length m,.int .i64 (zz D H hs t k).2.1,.bool (zz D H hs t k).2.2])).run (Pf fs) wr=.ok () (yh wr M (es'++[((h,t),bestV D H hs t k s m,ck')]) (ck'+1)):=run_put HL.out.kn.map hab
    have y1:wr.cell? ⟨nB,0,none⟩=some (.map (some M)):=za HL.out.kn.bn 0
    have y2:wr.cell? ⟨w.heap.size,0,none⟩=some (.int .i64 h):=za HL.out.bat 0
    have y3:wr.cell? ⟨w.heap.size,1,none⟩=some (.int .i64 t):=za HL.out.bat 1
    have y4:wr.cell? ⟨w.heap.size+1+1+1+1,0,none⟩=some (.slice s (zz D H hs t k).1.length m):=za HL.out.best 0
    have y5:wr.cell? ⟨w.heap.size+1+1+1+1,1,none⟩=some (.int .i64 (zz D H hs t k).2.1):=za HL.out.best 1
    have y6:wr.cell? ⟨w.heap.size+1+1+1+1,2,none⟩=some (.bool (zz D H hs t k).2.2):=za HL.out.best 2
    have hfin:=HL.out.finish HK.out hkn HD.out 0
    obtain⟨W1,hW1⟩:∃ W1,W1=yh wr M (es'++[((h,t),bestV D H hs t k s m,ck')]) (ck'+1):=⟨_,rfl⟩
    have b4:W1.heap[w.heap.size+1+1+1+1]?=some (.cells #[.slice s (zz D H hs t k).1.length m,.int .i64 (zz D H hs t k).2.1,.bool (zz D H hs t k).2.2] 141 (0,0)):=by rw[hW1];exact (jE _ _ _ _ (HL.out.ne HL.out.best)).trans HL.out.best
    have b1:W1.heap[w.heap.size+1]?=some (.cells #[.slice none 0 0,.int .i64 0,.bool false] 141 (0,0)):=by rw[hW1];exact (jE _ _ _ _ (HL.out.ne HL.out.res)).trans HL.out.res
    rw[← hW1] at e5 hfin
    clear hW1
    have x4:W1.cell? ⟨w.heap.size+1+1+1+1,0,none⟩=some (.slice s (zz D H hs t k).1.length m):=za b4 0
    have x5:W1.cell? ⟨w.heap.size+1+1+1+1,1,none⟩=some (.int .i64 (zz D H hs t k).2.1):=za b4 1
    have x6:W1.cell? ⟨w.heap.size+1+1+1+1,2,none⟩=some (.bool (zz D H hs t k).2.2):=za b4 2
    have x7:W1.cell? ⟨w.heap.size+1,0,none⟩=some (.slice none 0 0):=za b1 0
    have x8:W1.cell? ⟨w.heap.size+1,1,none⟩=some (.int .i64 0):=za b1 1
    have x9:W1.cell? ⟨w.heap.size+1,2,none⟩=some (.bool false):=za b1 2
    have f7:W1.frozen? ⟨w.heap.size+1,0,none⟩=false:=zk b1 0
    have f8:W1.frozen? ⟨w.heap.size+1,1,none⟩=false:=zk b1 1
    have f9:W1.frozen? ⟨w.heap.size+1,2,none⟩=false:=zk b1 2
    have HF:=Lib.hid hfin
    have HB1:=Lib.hid b1
    have HTK:=Lib.hid hkn
    clear L hab hfin b1 b4 hkt htl hkn hroom hin hk255
    simp only[bestV] at HF
    generalize (zz D H hs t k).1.length=b0 at *
    generalize (zz D H hs t k).2.1=bc at *
    generalize (zz D H hs t k).2.2=bn at *
    go_wp2_with fail
    have hb3:=qP HB1.out (.slice s b0 m) (.int .i64 bc) (.bool bn)
    have r0:=za hb3 0
    have r1:=za hb3 1
    have r2:=za hb3 2
    refine bodyPost_ret (v:=.agg #[.slice s b0 m,.int .i64 bc,.bool bn]) (by simp[results,Try.results127,go_sem,r0,r1,r2]) rfl ?_
    rw[← HP.out]
    exact HF.out
   ·have hi3:(i:Int)<3:=by have h1:=HK.out.kit.hi;have h2:=HK.out.kit.ng;omega
    have x0:wr.cell? ⟨kB,0,none⟩=some A.gs:=za L.out.kn.bk 0
    have x1:wr.cell? ⟨kB,1,none⟩=some A.ds:=za L.out.kn.bk 1
    have x2:wr.cell? ⟨kB,2,none⟩=some A.hs:=za L.out.kn.bk 2
    go_upto_region 12 with fail
    go_cut [62] (fun v wy=>v=.bool false∧wy=wr)
    case first =>
     by_cases hk0:k=0
     ·have t1:¬ ((0:Int)<(k:Int)):=by omega
      clear hk0
      go_wp2_with fail
      go_meet
      exact⟨rfl,rfl⟩
     ·have t1:((0:Int)<(k:Int)):=by omega
      have t3 : 0<k:=by omega
      have t2:¬ (H.price:Int)=0:=fun h=>hp0 ⟨by omega,by omega⟩
      clear hk0
      go_wp2_with fail
      go_meet
      exact⟨congrArg Value.bool (beq_eq_false_iff_ne.2 t2),rfl⟩
    case rest =>
    obtain⟨rfl,rfl⟩:=hcut
    have hln:=larder_new wc A (i:=i) (by omega)
    have hgn:Grown wc (wc.alloc (.cells #[A.gs,A.ds,A.hs,.int .i64 0,.int .i64 0,.int .i64 0,.int .i64 0,.int .i64 0,.int .i64 0] 125)):=.alloc _ _
    have HW:=Lib.hid hgn
    have HLN:=Lib.hid hln
    obtain⟨W1,hW1⟩:∃ W1,W1=wc.alloc (.cells #[A.gs,A.ds,A.hs,.int .i64 0,.int .i64 0,.int .i64 0,.int .i64 0,.int .i64 0,.int .i64 0] 125):=⟨_,rfl⟩
    rw[← hW1] at HW HLN
    have w1:W1.cell? ⟨oB,0,none⟩=some (.int .i64 i):=za (zf L.out.kn.bo HW.out) 0
    have w2:W1.cell? ⟨wc.heap.size,3+i,none⟩=some (.int .i64 0):=HLN.out.now
    have w3:W1.frozen? ⟨wc.heap.size,3+i,none⟩=false:=HLN.out.frozen _
    clear hln hgn
    go_upto_region 14 with fail
    rw[← hW1]
    clear hW1
    refine wp_region_still_tail 8 (by kernel_rfl) (by kernel_rfl) ?_
    simp only[List.take_succ_cons,List.take_zero,List.drop_succ_cons,List.drop_zero]
    change wpStill _ _ (World.drew _) (fun a'=>wpList _ _ _ _ a' (World.drew _)) _ _
    repeat still_step
    refine wpStill_nil ?_
    go_upto_region 15 with fail
    have HL2:=Lib.hid ((HLN.out.set (by omega) ((t:Int)+k)).drewN 1)
    have hg2:Grown wc (W1.setCell ⟨wc.heap.size,3+i,none⟩ (.int .i64 ((t:Int)+k))).drew:=(Only.grown HW.out (yV _ _ _ _) (Nat.le_refl _)).drewN 1
    have HG2:=Lib.hid hg2
    obtain⟨W2,hW2⟩:∃ W2,W2=(W1.setCell ⟨wc.heap.size,3+i,none⟩ (.int .i64 ((t:Int)+k))).drew:=⟨_,rfl⟩
    change Hid (LarderAt (W1.setCell ⟨wc.heap.size,3+i,none⟩ (.int .i64 ((t:Int)+k))).drew _ _ _ _ _) at HL2
    rw[← hW2] at HL2 HG2
    rw[← hW2]
    have v1:W2.cell? ⟨oB,0,none⟩=some (.int .i64 i):=za (zf L.out.kn.bo HG2.out) 0
    clear hW2 hg2 w1 w2 w3 HLN HW x0 x1 x2
    obtain⟨u,hu⟩:∃ u,u=H.covers*H.need:=⟨_,rfl⟩
    obtain⟨X,hX⟩:∃ X,X=melted H.hours D.melts (t+k):=⟨_,rfl⟩
    have hu1:u≤65025:=by rw[hu];exact Nat.mul_le_mul HQ.out.2.1 HQ.out.2.2.2
    have hL2:LarderAt W2 wc.heap.size A i ((t+k:Nat):Int) 0:=HL2.out
    have hmelt:=melt_at (fs:=fs) (n:=t+k) (m:=0) (h:=h) (H:=H) (D:=D) hL2 (L.out.kn.kit.grown HG2.out) HH.out hh (by omega) (by omega) 0
    rw[← hX] at hmelt
    have huse:∀ W,Grown wc W→Calls (Pf fs) 75 #[A.k,A.m,.int .i64 h,.int .i64 i] W fun e w'=>e=.returned (.int .i64 (u:Int))∧Below W.heap.size W w':=fun W hW=>by
     rw[hu]
     exact zah (fs:=fs) W ((L.out.kn.kit.grown hW).hauls h H HH.out) hh (by have:=HK.out.kit.nm;omega)
    have HM:=Lib.hid hmelt
    have HU:=Lib.hid huse
    have HXX:=Lib.hid hX
    have HUU:=Lib.hid hu
    clear hmelt huse hL2 hX hu
    go_wp2_with (go_at_call 98;refine HM.out.mono ?_;rintro e W3 ⟨rfl,ho3,hl3⟩;have HO3:=Lib.hid ho3;have HL3:=Lib.hid hl3;clear ho3 hl3)
    have HG3:=Lib.hid (Only.grown HG2.out HO3.out (Nat.le_refl _))
    have hs3:∀ W,Grown wc W→(W.cell? ⟨oB,0,none⟩=some (.int .i64 i)∧W.cell? ⟨kB,0,none⟩=some A.gs∧W.cell? ⟨kB,1,none⟩=some A.ds∧W.cell? ⟨kB,2,none⟩=some A.hs∧W.cell? ⟨mB,0,none⟩=some A.m):=fun W hW =>
     ⟨za (zf L.out.kn.bo hW) 0,za (zf L.out.kn.bk hW) 0,za (zf L.out.kn.bk hW) 1,za (zf L.out.kn.bk hW) 2,za (zf L.out.kn.bm hW) 0⟩
    have HS3:=Lib.hid hs3
    have hS:=hs3 _ (HG3.out.drewN 1)
    clear hs3 HM v1
    refine qh (by kernel_rfl) (fun W=>W.cell? ⟨oB,0,none⟩=some (.int .i64 i)∧W.cell? ⟨kB,0,none⟩=some A.gs∧W.cell? ⟨kB,1,none⟩=some A.ds∧W.cell? ⟨kB,2,none⟩=some A.hs∧W.cell? ⟨mB,0,none⟩=some A.m) [] ?_
    refine zx 0 ?_ rfl hS ?_ ?_;case refine_2=>(intro w hSw;(try dsimp only at hSw);go_simp;try rfl)
    refine zx 1 ?_ rfl hS ?_ ?_;case refine_2=>(intro w hSw;(try dsimp only at hSw);go_simp;try rfl)
    refine zx 2 ?_ rfl hS ?_ ?_;case refine_2=>(intro w hSw;(try dsimp only at hSw);go_simp;try rfl)
    refine zx 3 ?_ rfl hS ?_ ?_;case refine_2=>(intro w hSw;(try dsimp only at hSw);go_simp;try rfl)
    refine zx 4 ?_ rfl hS ?_ ?_;case refine_2=>(intro w hSw;(try dsimp only at hSw);go_simp;try rfl)
    refine zx 5 ?_ rfl hS ?_ ?_;case refine_2=>(intro w hSw;(try dsimp only at hSw);go_simp;try rfl)
    refine zx 6 ?_ rfl hS ?_ ?_;case refine_2=>(intro w hSw;(try dsimp only at hSw);go_simp;try rfl)
    refine zw (i:=7) rfl (by kernel_rfl) ?_
    intro Kq hKq
    go_simp
    refine (HU.out _ (HG3.out.drewN 1)).mono ?_
    rintro e W4 ⟨rfl,hb4⟩
    have HG4:=Lib.hid ((HG3.out.drewN 1).trans (Grown.below hb4))
    have HL4:=Lib.hid (HL3.out.keep (w':=W4) (hb4.block _ HL3.out.lt))
    have hS:=HS3.out _ HG4.out
    refine hKq.out _ _ hS (fun _=>?_)
    clear hKq Kq hb4
    refine zw (i:=8) rfl (by kernel_rfl) ?_
    intro Kq hKq
    go_simp
    obtain⟨ok,hok⟩:∃ ok:Bool,ok=decide ((D.reserve:Int)≤((t+k-X:Nat):Int)-u):=⟨_,rfl⟩
    have hne:A.gb≠wc.heap.size:=Nat.ne_of_lt (qw L.out.kn.kit.room)
    have heat:=eat_at (fs:=fs) (h:=h) (u:=u) (n:=t+k-X) (m:=0+X) HL4.out (L.out.kn.kit.grown HG4.out) hne (by omega) hu1
    rw[← hok] at heat
    have HOK:=Lib.hid hok
    clear hok
    refine heat.mono ?_
    rintro e W5 ⟨rfl,ho5,hl5⟩
    have HG5:=Lib.hid (Only.grown HG4.out ho5 (Nat.le_refl _))
    have HL5:=Lib.hid hl5
    have hS:=HS3.out _ HG5.out
    refine hKq.out _ _ hS (fun _=>?_)
    clear hKq Kq heat hne ho5 hl5
    refine zx 9 ?_ rfl hS ?_ ?_;case refine_2=>(intro w hSw;(try dsimp only at hSw);go_simp;try rfl)
    refine qd (by kernel_rfl) ?_
    simp only[Act.put,List.getElem_toArray,List.getElem_cons_succ,List.getElem_cons_zero,List.setIfInBounds_toArray,List.set_cons_zero,List.set_cons_succ]
    clear hS HU HL3 HL4 HG3 HG4 HO3 HL2 HG2 z1 z2 z3 z4
    cases ok
    ·go_wp2_with fail
     go_roundw
     case rel =>
      have hsh:¬ (D.reserve:Int)≤((t+k-melted H.hours D.melts (t+k):Nat):Int)-((H.covers*H.need:Nat):Int):=by
       rw[← HXX.out,← HUU.out]
       exact of_decide_eq_false HOK.out.symm
      exact⟨k+1,es',ck',s,m,by go_num,L.out.more HG5.out (by rw[Zq,tryN_short hsh]) (yf hin hp0)⟩
     case measure =>
      have:=yf hin hp0
      simp[intOf]
      omega
    ·have hgood:=of_decide_eq_true HOK.out.symm
     obtain⟨n2,hn2⟩:∃ n2:Nat,((t+k-X:Nat):Int)-u=(n2:Int):=⟨(((t+k-X:Nat):Int)-u).toNat,by omega⟩
     have hn255:n2≤255:=by omega
     have hl5:=HL5.out
     rw[hn2] at hl5
     have HL6:=Lib.hid hl5
     have HN2:=Lib.hid hn2
     have HGD:=Lib.hid hgood
     clear hl5 hn2 HL5 hgood
     obtain⟨p,hp⟩:∃ p,p=zU D hs n2:=⟨_,rfl⟩
     have HPP:=Lib.hid hp
     clear hp
     go_upto_region 17 with fail
     go_cut [17] (fun v wy=>∃ (R:Nat) (es2:List Ent) (ck2:Nat) (s2:Option Addr) (m2:Nat),v=.pointer (some ⟨R,0,none⟩)∧w.heap.size+1+1+1+1<R∧Hid (LoopAt A i D kB nB gB oB mB fB M es h t H hs (.slice (some ⟨pb,po,none⟩) np cp) w k wy es2 ck2 s m)∧Hid (RestAt wy R p s2 m2))
     case first =>
      have hh1:IntKind.i64.wrap ((h:Int)+1)=((h+1:Nat):Int):=by
       have:=HK.out.kit.nh
       rw[IntKind.wrap_i64]
       omega
      have hs7:∀ W,W.heap[fB]?=some (.cells #[fromF kB nB gB oB mB fB] 159 (0,0))→W.heap[oB]?=some (.cells #[int i] 3 (0,0))→LarderAt W wc.heap.size A i n2 (0+X)→(W.cell? ⟨fB,0,none⟩=some (.func (.func 127) #[] #[.pointer (some ⟨kB,0,none⟩),.pointer (some ⟨nB,0,none⟩),.pointer (some ⟨gB,0,none⟩),.pointer (some ⟨oB,0,none⟩),.pointer (some ⟨mB,0,none⟩),.pointer (some ⟨fB,0,none⟩)])∧W.cell? ⟨oB,0,none⟩=some (.int .i64 i)∧W.cell? ⟨wc.heap.size,3+i,none⟩=some (.int .i64 n2)):=fun W h1 h2 h3 =>
       ⟨za h1 0,za h2 0,h3.now⟩
      have HS7:=Lib.hid hs7
      have hS:=hs7 W5.drew (L.out.kn.grown HG5.out).bf (L.out.kn.grown HG5.out).bo (HL6.out.drewN 1)
      clear hs7 HS3
      refine qh (by kernel_rfl) (fun W=>W.cell? ⟨fB,0,none⟩=some (.func (.func 127) #[] #[.pointer (some ⟨kB,0,none⟩),.pointer (some ⟨nB,0,none⟩),.pointer (some ⟨gB,0,none⟩),.pointer (some ⟨oB,0,none⟩),.pointer (some ⟨mB,0,none⟩),.pointer (some ⟨fB,0,none⟩)])∧W.cell? ⟨oB,0,none⟩=some (.int .i64 i)∧W.cell? ⟨wc.heap.size,3+i,none⟩=some (.int .i64 n2)) [12] ?_
      refine zx 0 ?_ rfl hS ?_ ?_;case refine_2=>(intro w hSw;(try dsimp only at hSw);go_simp;try rfl)
      refine zx 1 ?_ rfl hS ?_ ?_;case refine_2=>(intro w hSw;(try dsimp only at hSw);go_simp;try rfl)
      refine zx 2 ?_ rfl hS ?_ ?_;case refine_2=>(intro w hSw;(try dsimp only at hSw);go_simp;try rfl)
      refine zx 3 ?_ rfl hS ?_ ?_;case refine_2=>(intro w hSw;(try dsimp only at hSw);go_simp;try rfl)
      refine zx 4 ?_ rfl hS ?_ ?_;case refine_2=>(intro w hSw;(try dsimp only at hSw);go_simp;try rfl)
      refine zx 5 ?_ rfl hS ?_ ?_;case refine_2=>(intro w hSw;(try dsimp only at hSw);go_simp;try rfl)
      refine zx 6 ?_ rfl hS ?_ ?_;case refine_2=>(intro w hSw;(try dsimp only at hSw);go_simp;try rfl)
      refine zx 7 ?_ rfl hS ?_ ?_;case refine_2=>(intro w hSw;(try dsimp only at hSw);go_simp;try rfl)
      refine zx 8 ?_ rfl hS ?_ ?_;case refine_2=>(intro w hSw;(try dsimp only at hSw);go_simp;try rfl)
      refine zx 9 ?_ rfl hS ?_ ?_;case refine_2=>(intro w hSw;(try dsimp only at hSw);go_simp;try rfl)
      refine wpAnyL_two (i:=10) (j:=11) rfl rfl (by kernel_rfl) ?_ ?_
      ·intro Kq hKq
       go_simp
       have hC:Calls (Pf fs) 127 #[.agg #[.int .i64 ((h:Int)+1),.int .i64 n2],.pointer (some ⟨kB,0,none⟩),.pointer (some ⟨nB,0,none⟩),.pointer (some ⟨gB,0,none⟩),.pointer (some ⟨oB,0,none⟩),.pointer (some ⟨mB,0,none⟩),.pointer (some ⟨fB,0,none⟩)] W5.drew (je A i D kB nB gB oB mB fB M es' (h+1) n2 W5.drew):=HIH.out n2 W5.drew es' ck' hn255 (L.out.kn.grown (HG5.out.drewN 1))
       refine hC.mono ?_
       clear hC
       rintro e W6 ⟨v,es2,ck2,rfl,t6,k6,n6,p6⟩
       rw[HHS.out,← HPP.out] at p6
       obtain⟨s2,m2,rfl,l6⟩:=p6
       have LA:=Lib.hid ((L.out.grown (HG5.out.drewN 1)).turned t6 k6 n6)
       have LR:=Lib.hid l6
       have hLd:LarderAt W6 wc.heap.size A i n2 (0+X):=by
        obtain⟨cs,hcs,_⟩:=(HL6.out.drewN 1).ex
        exact (HL6.out.drewN 1).keep (t6.same _ (zj hcs) ((L.out.grown (HG5.out.drewN 1)).ne hcs))
       have HLD:=Lib.hid hLd
       have hsz:wc.heap.size≤W6.heap.size:=Nat.le_trans HG5.out.size t6.size
       have HSZ:=Lib.hid hsz
       have hS:=HS7.out W6 k6.bf k6.bo hLd
       clear k6 n6 t6 l6 hLd hsz
       refine hKq.out _ _ hS (fun _=>?_)
       clear hKq Kq
       try simp only[Act.put,List.getElem_toArray,List.getElem_cons_succ,List.getElem_cons_zero,List.setIfInBounds_toArray,List.set_cons_zero,List.set_cons_succ]
       refine zw (i:=11) rfl (by kernel_rfl) ?_
       intro Kq hKq
       go_simp
       have hS:=HS7.out (W6.alloc (.cells #[.slice none 0 0,.int .i64 0,.bool false] 141)) (LA.out.grown (.alloc _ _)).kn.bf (LA.out.grown (.alloc _ _)).kn.bo (HLD.out.keep (Below.heap_alloc _ _ _ HLD.out.lt))
       refine hKq.out _ _ hS (fun _=>?_)
       clear hKq Kq
       try simp only[Act.put,List.getElem_toArray,List.getElem_cons_succ,List.getElem_cons_zero,List.setIfInBounds_toArray,List.set_cons_zero,List.set_cons_succ]
       refine qx (i:=12) rfl (by kernel_rfl) (by rfl) ?_
       intro Kq hKq
       go_simp
       refine hKq.out _ _ ?_
       clear hKq Kq
       refine qd (by kernel_rfl) ?_
       try simp only[Act.put,List.getElem_toArray,List.getElem_cons_succ,List.getElem_cons_zero,List.setIfInBounds_toArray,List.set_cons_zero,List.set_cons_succ]
       go_wp2_with fail
       go_meet
       exact⟨W6.heap.size,es2,ck2,s2,m2,rfl,Nat.lt_of_lt_of_le (zj L.out.best) HSZ.out,LA.out.grown (.alloc _ _),RestAt.mk (heap_alloc_new _ _) (LR.out.grown (.alloc _ _))⟩
      ·intro Kq hKq
       go_simp
       have hS:=HS7.out (W5.drew.alloc (.cells #[.slice none 0 0,.int .i64 0,.bool false] 141)) (L.out.kn.grown ((HG5.out.drewN 1).trans (.alloc _ _))).bf (L.out.kn.grown ((HG5.out.drewN 1).trans (.alloc _ _))).bo ((HL6.out.drewN 1).keep (Below.heap_alloc _ _ _ HL6.out.lt))
       refine hKq.out _ _ hS (fun _=>?_)
       clear hKq Kq
       try simp only[Act.put,List.getElem_toArray,List.getElem_cons_succ,List.getElem_cons_zero,List.setIfInBounds_toArray,List.set_cons_zero,List.set_cons_succ]
       refine zw (i:=10) rfl (by kernel_rfl) ?_
       intro Kq hKq
       go_simp
       have LZ:=Lib.hid (L.out.grown ((HG5.out.trans (.alloc _ (.cells #[.slice none 0 0,.int .i64 0,.bool false] 141))).drewN 1))
       have hC:Calls (Pf fs) 127 #[.agg #[.int .i64 ((h:Int)+1),.int .i64 n2],.pointer (some ⟨kB,0,none⟩),.pointer (some ⟨nB,0,none⟩),.pointer (some ⟨gB,0,none⟩),.pointer (some ⟨oB,0,none⟩),.pointer (some ⟨mB,0,none⟩),.pointer (some ⟨fB,0,none⟩)] (W5.alloc (.cells #[.slice none 0 0,.int .i64 0,.bool false] 141)).drew (je A i D kB nB gB oB mB fB M es' (h+1) n2 (W5.alloc (.cells #[.slice none 0 0,.int .i64 0,.bool false] 141)).drew):=HIH.out n2 _ es' ck' hn255 LZ.out.kn
       refine hC.mono ?_
       clear hC
       rintro e W6 ⟨v,es2,ck2,rfl,t6,k6,n6,p6⟩
       rw[HHS.out,← HPP.out] at p6
       obtain⟨s2,m2,rfl,l6⟩:=p6
       have LA:=Lib.hid (LZ.out.turned t6 k6 n6)
       have LR:=Lib.hid l6
       have hLd:LarderAt W6 wc.heap.size A i n2 (0+X):=by
        have hl0:LarderAt (W5.alloc (.cells #[.slice none 0 0,.int .i64 0,.bool false] 141)).drew wc.heap.size A i n2 (0+X):=HL6.out.keep (Below.heap_alloc _ _ _ HL6.out.lt)
        obtain⟨cs,hcs,_⟩:=hl0.ex
        exact hl0.keep (t6.same _ (zj hcs) (LZ.out.ne hcs))
       have hR0:(W5.alloc (.cells #[.slice none 0 0,.int .i64 0,.bool false] 141)).drew.heap[W5.heap.size]?=some (.cells #[.slice none 0 0,.int .i64 0,.bool false] 141 (0,0)):=heap_alloc_new W5 _
       have hR:W6.heap[W5.heap.size]?=some (.cells #[.slice none 0 0,.int .i64 0,.bool false] 141 (0,0)):=(t6.same _ (zj hR0) (LZ.out.ne hR0)).trans hR0
       have HR:=Lib.hid hR
       have hsz:wc.heap.size≤W5.heap.size:=HG5.out.size
       have HSZ:=Lib.hid hsz
       have hS:=HS7.out W6 k6.bf k6.bo hLd
       have d0:W6.cell? ⟨W5.heap.size,0,none⟩=some (.slice none 0 0):=za hR 0
       have d1:W6.cell? ⟨W5.heap.size,1,none⟩=some (.int .i64 0):=za hR 1
       have d2:W6.cell? ⟨W5.heap.size,2,none⟩=some (.bool false):=za hR 2
       have d3:W6.frozen? ⟨W5.heap.size,0,none⟩=false:=zk hR 0
       have d4:W6.frozen? ⟨W5.heap.size,1,none⟩=false:=zk hR 1
       have d5:W6.frozen? ⟨W5.heap.size,2,none⟩=false:=zk hR 2
       clear k6 n6 t6 l6 hLd hsz hR0 hR
       refine hKq.out _ _ hS (fun _=>?_)
       clear hKq Kq
       try simp only[Act.put,List.getElem_toArray,List.getElem_cons_succ,List.getElem_cons_zero,List.setIfInBounds_toArray,List.set_cons_zero,List.set_cons_succ]
       refine qx (i:=12) rfl (by kernel_rfl) (by rfl) ?_
       intro Kq hKq
       go_simp
       refine hKq.out _ _ ?_
       clear hKq Kq
       refine qd (by kernel_rfl) ?_
       try simp only[Act.put,List.getElem_toArray,List.getElem_cons_succ,List.getElem_cons_zero,List.setIfInBounds_toArray,List.set_cons_zero,List.set_cons_succ]
       go_wp2_with fail
       go_meet
       have hlt:=Nat.lt_of_lt_of_le (zj L.out.best) HSZ.out
       exact⟨W5.heap.size,es2,ck2,s2,m2,rfl,hlt,LoopAt.setNew HK.out LA.out hlt HR.out (ZC _ _ _ _ _),RestAt.mk (qP HR.out _ _ _) (LR.out.only HR.out (ZC _ _ _ _ _))⟩
     case rest =>
     obtain⟨R,es2,ck2,s2,m2,rfl,hRN,hL7,hR7⟩:=hcut
     have hk8:k≤255:=by omega
     have hmul:k*H.price≤255*255:=Nat.mul_le_mul hk8 HQ.out.2.2.1
     have hpc:p.2.1≤16*65025:=by
      rw[HPP.out]
      refine Nat.le_trans (Zw hroom hs n2 fun x hx=>?_) ?_
      ·rw[← HHS.out] at hx
       obtain⟨j,hj,hx2⟩:=List.getElem_of_mem (List.mem_of_mem_drop hx)
       exact (HK.out.kit.hauls j x (by rw[List.getElem?_eq_getElem hj,hx2])).price
      ·rw[← HHS.out,List.length_drop,HK.out.kit.len]
       have:=HK.out.kit.nh
       exact Nat.mul_le_mul (by omega) (Nat.le_refl _)
     obtain⟨kp,hkp⟩:∃ kp,kp=k*H.price:=⟨_,rfl⟩
     obtain⟨c,hc⟩:∃ c,c=p.2.1+kp:=⟨_,rfl⟩
     have hkp2:kp≤255*255:=by rw[hkp];exact hmul
     have hc2:c≤16*65025+255*255:=by rw[hc];exact Nat.add_le_add hpc hkp2
     have m1':(k:Int)*(H.price:Int)=(kp:Int):=by rw[hkp,Int.natCast_mul]
     have m3':((p.2.1:Int)+(kp:Int))=(c:Int):=by rw[hc,Int.natCast_add]
     have m4:wrap64 (kp:Int)=(kp:Int):=JF (Nat.le_trans hkp2 (by decide))
     have m6:wrap64 (c:Int)=(c:Int):=JF (Nat.le_trans hc2 (by decide))
     have HKP:=Lib.hid hkp
     have HCC:=Lib.hid hc
     clear hkp hc hmul hpc hkp2 hc2
     have a1:wc.cell? ⟨R,1,none⟩=some (.int .i64 p.2.1):=za hR7.out.blk 1
     have a2:wc.cell? ⟨w.heap.size+1+1+1,2,none⟩=some (.slice (some ⟨pb,po,none⟩) np cp):=za hL7.out.bh 2
     have a3:wc.cell? ⟨oB,0,none⟩=some (.int .i64 i):=za hL7.out.kn.bo 0
     have a4:wc.cell? ⟨pb,po+i,none⟩=some (.int .i64 H.price):=hL7.out.turn.cell HK.out.noCells HC6.out
     go_upto_region 18 with fail
     go_quiet (fail)
     go_upto_region 19 with fail
     rw[m6]
     clear m6
     have b1:wc.cell? ⟨R,2,none⟩=some (.bool p.2.2):=za hR7.out.blk 2
     have b2:wc.cell? ⟨w.heap.size+1+1+1+1,2,none⟩=some (.bool (zz D H hs t k).2.2):=za hL7.out.best 2
     have b3:wc.cell? ⟨w.heap.size+1+1+1+1,1,none⟩=some (.int .i64 (zz D H hs t k).2.1):=za hL7.out.best 1
     obtain⟨tk,htk⟩:∃ tk:Bool,tk=(!p.2.2&&((zz D H hs t k).2.2||decide (c<(zz D H hs t k).2.1))):=⟨_,rfl⟩
     have HTK:=Lib.hid htk
     obtain⟨bn,hbn⟩:∃ bn,bn=(zz D H hs t k).2.2:=⟨_,rfl⟩
     obtain⟨bc,hbc⟩:∃ bc,bc=(zz D H hs t k).2.1:=⟨_,rfl⟩
     obtain⟨pn,hpn⟩:∃ pn,pn=p.2.2:=⟨_,rfl⟩
     rw[← hbn,← hbc,← hpn] at htk
     rw[← hbn] at b2
     rw[← hbc] at b3
     rw[← hpn] at b1
     clear hbn hbc hpn
     have HTK2:=Lib.hid htk
     clear htk m1' m3' m4 a2 a3 a4
     go_cut [121] (fun v wy=>v=.bool tk∧wy=wc.drewN nq)
     case first =>
      cases pn
      ·cases bn
       ·by_cases hcb:c<bc
        ·have n1:(c:Int)<(bc:Int):=Int.ofNat_lt.2 hcb
         have n2:decide ((c:Int)<(bc:Int))=true:=decide_eq_true n1
         have n3:decide (c<bc)=true:=decide_eq_true hcb
         have N3:=Lib.hid n3
         clear hcb n1 n3
         go_wp2_with (go_at_call 91;refine (Jv _ _ _).mono ?_;rw[n2];rintro e w' ⟨rfl,rfl⟩)
         go_meet
         exact⟨by rw[HTK2.out,N3.out];rfl,rfl⟩
        ·have n1:¬ (c:Int)<(bc:Int):=fun h=>hcb (Int.ofNat_lt.1 h)
         have n2:decide ((c:Int)<(bc:Int))=false:=decide_eq_false n1
         have n3:decide (c<bc)=false:=decide_eq_false hcb
         have N3:=Lib.hid n3
         clear hcb n1 n3
         go_wp2_with (go_at_call 91;refine (Jv _ _ _).mono ?_;rw[n2];rintro e w' ⟨rfl,rfl⟩)
         go_meet
         exact⟨by rw[HTK2.out,N3.out];rfl,rfl⟩
       ·go_wp2_with fail
        go_meet
        exact⟨by rw[HTK2.out];rfl,rfl⟩
      ·go_wp2_with fail
       go_meet
       exact⟨by rw[HTK2.out];rfl,rfl⟩
     case rest =>
     obtain⟨rfl,rfl⟩:=hcut
     have hlong:tryN D H (zU D hs) t (zz D H hs t k) k=if tk then (k::p.1,c,false) else zz D H hs t k:=by
      rw[tryN_long (n2:=n2) (by rw[← HXX.out,← HUU.out];exact HGD.out) (by rw[← HXX.out,← HUU.out];exact HN2.out.symm),← HPP.out,← HKP.out,← HCC.out,HTK.out]
     have HLG:=Lib.hid hlong
     clear hlong
     cases tk
     ·go_wp2_with fail
      go_roundw
      case rel=>exact⟨k+1,es2,ck2,s,m,by go_num,hL7.out.more ((Grown.refl _).drewN nq) (by rw[Zq,HLG.out];rfl) (yf hin hp0)⟩
      case measure =>
       have:=yf hin hp0
       simp[intOf]
       omega
     ·have hpl:p.1.length<17:=by
       rw[HPP.out]
       have h1:=yN D hs n2
       have h2:hs.length≤16:=by
        rw[← HHS.out,List.length_drop,HK.out.kit.len]
        have:=HK.out.kit.nh
        omega
       omega
      have HPL:=Lib.hid hpl
      have g1:wc.cell? ⟨R,0,none⟩=some (.slice s2 p.1.length m2):=za hR7.out.blk 0
      have ga:Grown wc ((wc.drewN nq).alloc (.cells #[.int .i64 k] 3)):=((Grown.refl _).drewN nq).trans (.alloc _ _)
      have HGA:=Lib.hid ga
      have hgG:((wc.drewN nq).alloc (.cells #[.int .i64 (k:Int)] 3)).heap[wc.heap.size]?=some (.cells #[.int .i64 k] 3 (0,0)):=heap_alloc_new (wc.drewN nq) _
      have HGG:=Lib.hid hgG
      have hlds:=hR7.out.loads.grown ga
      have HLD:=Lib.hid hlds
      clear hpl ga hgG hlds b1 b2 b3
      have g2:((wc.drewN nq).alloc (.cells #[.int .i64 (k:Int)] 3)).cell? ⟨R,0,none⟩=some (.slice s2 p.1.length m2):=za (zf hR7.out.blk HGA.out) 0
      go_upto_region 20 with fail
      go_wp2_with (at_builtin;refine wpl_cons rfl (.tmp 123) (.tmp 125) rfl rfl (k:=k) (l:=p.1) (m:=m2) rfl rfl HGG.out HLD.out HPL.out ?_;intro gg mm W8 hg8 hl8;have HG8:=Lib.hid (HGA.out.trans hg8);have HL8:=Lib.hid hl8;have hb8:=zf hL7.out.best HG8.out;have e0:W8.cell? ⟨w.heap.size+1+1+1+1,0,none⟩=_:=za hb8 0;have e1':W8.cell? ⟨w.heap.size+1+1+1+1,1,none⟩=_:=za hb8 1;have e2':W8.cell? ⟨w.heap.size+1+1+1+1,2,none⟩=_:=za hb8 2;have f0:W8.frozen? ⟨w.heap.size+1+1+1+1,0,none⟩=false:=zk hb8 0;have f1:W8.frozen? ⟨w.heap.size+1+1+1+1,1,none⟩=false:=zk hb8 1;have f2:W8.frozen? ⟨w.heap.size+1+1+1+1,2,none⟩=false:=zk hb8 2;have HB8:=Lib.hid hb8;clear hg8 hl8 hb8)
      go_roundw
      case rel =>
       have hbe:zz D H hs t (k+1)=(k::p.1,c,false):=by rw[Zq,HLG.out];rfl
       exact⟨k+1,es2,ck2,some ⟨gg,0,none⟩,mm,by go_num,LoopAt.better HK.out (hL7.out.grown HG8.out) (ZC _ _ _ _ _) (yf hin hp0) hbe (qP HB8.out _ _ _) (LoadsAt.only HL8.out HB8.out (ZC _ _ _ _ _))⟩
      case measure =>
       have:=yf hin hp0
       simp[intOf]
       omega
  ·have hkn:k=tries D H t:=tries_out hkt hin
   have tin:¬ ((t+k:Nat):Int)≤(D.room:Int):=fun h=>hin (Int.ofNat_le.1 h)
   have HL:=L
   have hab:=HL.out.absent HV.out
   have e5:(Instr.mapUpdate 158 (.map (some M)) (.agg #[.int .i64 h,.int .i64 t]) (.agg #[.slice s (zz D H hs t k).1.length m,.int .i64 (zz D H hs t k).2.1,.bool (zz D H hs t k).2.2])).run (Pf fs) wr=.ok () (yh wr M (es'++[((h,t),bestV D H hs t k s m,ck')]) (ck'+1)):=run_put HL.out.kn.map hab
   have y1:wr.cell? ⟨nB,0,none⟩=some (.map (some M)):=za HL.out.kn.bn 0
   have y2:wr.cell? ⟨w.heap.size,0,none⟩=some (.int .i64 h):=za HL.out.bat 0
   have y3:wr.cell? ⟨w.heap.size,1,none⟩=some (.int .i64 t):=za HL.out.bat 1
   have y4:wr.cell? ⟨w.heap.size+1+1+1+1,0,none⟩=some (.slice s (zz D H hs t k).1.length m):=za HL.out.best 0
   have y5:wr.cell? ⟨w.heap.size+1+1+1+1,1,none⟩=some (.int .i64 (zz D H hs t k).2.1):=za HL.out.best 1
   have y6:wr.cell? ⟨w.heap.size+1+1+1+1,2,none⟩=some (.bool (zz D H hs t k).2.2):=za HL.out.best 2
   have hfin:=HL.out.finish HK.out hkn HD.out 0
   obtain⟨W1,hW1⟩:∃ W1,W1=yh wr M (es'++[((h,t),bestV D H hs t k s m,ck')]) (ck'+1):=⟨_,rfl⟩
   have b4:W1.heap[w.heap.size+1+1+1+1]?=some (.cells #[.slice s (zz D H hs t k).1.length m,.int .i64 (zz D H hs t k).2.1,.bool (zz D H hs t k).2.2] 141 (0,0)):=by rw[hW1];exact (jE _ _ _ _ (HL.out.ne HL.out.best)).trans HL.out.best
   have b1:W1.heap[w.heap.size+1]?=some (.cells #[.slice none 0 0,.int .i64 0,.bool false] 141 (0,0)):=by rw[hW1];exact (jE _ _ _ _ (HL.out.ne HL.out.res)).trans HL.out.res
   rw[← hW1] at e5 hfin
   clear hW1
   have x4:W1.cell? ⟨w.heap.size+1+1+1+1,0,none⟩=some (.slice s (zz D H hs t k).1.length m):=za b4 0
   have x5:W1.cell? ⟨w.heap.size+1+1+1+1,1,none⟩=some (.int .i64 (zz D H hs t k).2.1):=za b4 1
   have x6:W1.cell? ⟨w.heap.size+1+1+1+1,2,none⟩=some (.bool (zz D H hs t k).2.2):=za b4 2
   have x7:W1.cell? ⟨w.heap.size+1,0,none⟩=some (.slice none 0 0):=za b1 0
   have x8:W1.cell? ⟨w.heap.size+1,1,none⟩=some (.int .i64 0):=za b1 1
   have x9:W1.cell? ⟨w.heap.size+1,2,none⟩=some (.bool false):=za b1 2
   have f7:W1.frozen? ⟨w.heap.size+1,0,none⟩=false:=zk b1 0
   have f8:W1.frozen? ⟨w.heap.size+1,1,none⟩=false:=zk b1 1
   have f9:W1.frozen? ⟨w.heap.size+1,2,none⟩=false:=zk b1 2
   have HF:=Lib.hid hfin
   have HB1:=Lib.hid b1
   have HTK:=Lib.hid hkn
   clear L hab hfin b1 b4 hkt htl hkn hroom hin hk255
   simp only[bestV] at HF
   generalize (zz D H hs t k).1.length=b0 at *
   generalize (zz D H hs t k).2.1=bc at *
   generalize (zz D H hs t k).2.2=bn at *
   go_wp2_with fail
   have hb3:=qP HB1.out (.slice s b0 m) (.int .i64 bc) (.bool bn)
   have r0:=za hb3 0
   have r1:=za hb3 1
   have r2:=za hb3 2
   refine bodyPost_ret (v:=.agg #[.slice s b0 m,.int .i64 bc,.bool bn]) (by simp[results,Try.results127,go_sem,r0,r1,r2]) rfl ?_
   rw[← HP.out]
   exact HF.out
end
end Go.Gal
