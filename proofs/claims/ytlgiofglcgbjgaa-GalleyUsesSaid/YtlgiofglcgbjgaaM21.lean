/- 'all', the starter: its whole script, from the WaitGroup into Wait. 'all', the starter: from the WaitGroup to the loop; Wait's rounds; memory at the start. 'all' on the right: from its .. -/
import Derived.Test.YtlgiofglcgbjgaaM20
namespace Go.Gal
open Go Go.Par Go.Proofs Go.Conc Go.ConcN Go.RowKit Go.Conc.Lib Go.ConcR.Gen Go.ConcN.Gen
section
open Go.ConcR (KK WgAt stA smA rd wr mk DC0 Payload wgBlock)
section
variable {J:Job} {N i:Nat} {kd:CallKind} {cs:List Frame} {ok:JobOk J} {hcw:J.C≠N+4} {V M:Nat→Prop} {w:World} {T:Array Value} {g:Goroutine} {m n r:Nat}
theorem head74 {Stop:Goroutine→World→Prop} (hk:kd≠.early) (hT:Lp T N J.n i J.U) (hi:i≤J.n) (hn:J.n≤16)
  (h:∀ w,MF J N V w→Goes Try.prog true (RmJ J N V) DC0 Stop n (gAt kd cs (T.setIfInBounds 24 (.bool (decide (i<J.n)))) (.code (if decide (i<J.n) then .skip else .exit 0)::.code (.seq (.block 1 in74) (.region 8 (R74 8) false))::on74)) w) :
  ∀ w,MF J N V w→Goes Try.prog true (RmJ J N V) DC0 Stop (n+6) (gAt kd cs T (.code round74::on74)) w:=by
 refine pstep dc0 mf_rl rfl (fun w _=>stepG_seq) ?_
 refine pstep dc0 mf_rl rfl (fun w _=>stepG_region) ?_
 rw[z4,show List.range 1=[0] from rfl]
 refine pstep dc0 mf_rl rfl (fun w _=>qT hk (by rw[z4];omega) p40.2.1 p40.2.2 (q40 (by omega) (by omega) hT.s23 hT.s22) (by simp)) ?_
 refine pstep dc0 mf_rl rfl (fun w _=>stepG_region_end) ?_
 refine pstep dc0 mf_rl rfl (fun w _=>stepG_seq) ?_
 exact pstep dc0 mf_rl rfl (fun w _=>stepG_cond (eval_at (hT.tm.get (by omega) _))) h
theorem gua_alloc {C:Nat} {R O:Nat→Prop} (o:Obj):Gua C M R O w (w.alloc o) #[]:=
 ⟨by rw[size_alloc];omega,⟨rfl,rfl,rfl⟩,fun b hb _ _=>qf hb rfl,fun cs t m h=>⟨cs,qf (Array.getElem?_eq_some_iff.1 h).1 h,rfl,fun _ _=>rfl⟩,fun e he=>by simp at he⟩
theorem gua_set {C b o:Nat} {R O:Nat→Prop} {v:Value} (hb:M b) (hl:b<w.heap.size) (hC:b≠C):Gua C M R O w (w.setCell ⟨b,o,none⟩ v) #[⟨.cell ⟨b,o,none⟩,true,false⟩]:=by
 have ha:=aside_setCell w ⟨b,o,none⟩ v
 refine⟨by rw[ha.size];exact Nat.le_refl _,⟨ha.os,ha.output,ha.tape⟩,fun c _ hc _=>ha.block c (fun e=>hc (e▸hb)),fun cs t m h=>⟨cs,(ha.block C (Ne.symm hC)).trans h,rfl,fun _ _=>rfl⟩,fun e he=>?_⟩
 simp only[List.mem_toArray,List.mem_cons,List.not_mem_nil,or_false] at he
 subst he
 refine⟨fun x hx=>.inl ⟨b,?_,.inl (.inl hb)⟩,⟨by simp,by simp⟩,by simp,by rw[ha.size];exact hl⟩
 simp[MemAct.ofEvent,MemAct.touch?] at hx;subst hx;rfl
def Fb (J:Job) (N i:Nat) (V:Nat→Prop) (b:Nat) (w:World):Prop:=MF J N V w∧w.heap[b]?=some (.cells #[.int .i64 i] 3)
theorem fb_rl {b:Nat} (hb:V b) (w w1:World) (r:RmJ J N V w w1) (h:Fb J N i V b w):Fb J N i V b w1:=⟨h.1.rely r,(r.blk b hb).trans h.2⟩
theorem after74 (hk:kd≠.early) (hT:Lp T N J.n i J.U) (hi:i<J.n) (hn:J.n≤16) (ih:∀ V M T w,Lp T N J.n (i+1) J.U→MF J N V w→RunR J N kd cs ok hcw 60 r V M (gAt kd cs T (.code round74::on74)) w) (hF:MF J N V w) :
  Zs J N kd cs ok hcw r V M (gAt kd cs T (.inRegion (R74 7) []::go74)) w:=by
 refine RunR.spawns (m:=60+10) (zcw ?_)
 suffices key:∀ w,MF J N V w→Goes Try.prog true (RmJ J N V) DC0 (fun g w=>RunR J N kd cs ok hcw 60 r V M g w) 10 (gAt kd cs T (.inRegion (R74 7) []::go74)) w from key w hF
 clear hF
 refine pstep dc0 mf_rl rfl (fun w _=>stepG_region_end) ?_
 refine pstep dc0 mf_rl rfl (fun w _=>stepG_inBlock) ?_
 refine pstep dc0 mf_rl rfl (fun w _=>stepG_region) ?_
 rw[z8,show List.range 2=[0,1] from rfl]
 refine pstep dc0 mf_rl rfl (fun w _=>qT hk (by rw[z8];omega) p80.2.1 p80.2.2 (q80 (by omega) hT.s23) (by simp)) ?_
 refine pstep dc0 mf_rl rfl (fun w _=>qT hk (by rw[z8];omega) p81.2.1 p81.2.2 (q81 (hT.tm.get (by omega) _)) (by simp)) ?_
 refine pstep dc0 mf_rl rfl (fun w _=>stepG_region_end) ?_
 refine pstep dc0 mf_rl rfl (fun w _=>stepG_inLoop) ?_
 intro w hF
 refine Goes.stop fun w1 h1=>ih V M _ w1 ⟨(hT.tm.set _ (by omega)).set _ (by omega),?_,(hT.tm.set _ (by omega)).get (by omega) _⟩ (hF.rely h1)
 rw[Array.getElem?_setIfInBounds_ne (by omega),Array.getElem?_setIfInBounds_ne (by omega)]
 exact hT.s22
theorem spawn74 (hk:kd≠.early) (hT:Lp T N J.n i J.U) {b:Nat} (h9:T[9]?=some (ptr b)) (hb:V b) (hi:i<J.n) (hn:J.n≤16) (ih:∀ V M T w,Lp T N J.n (i+1) J.U→MF J N V w→RunR J N kd cs ok hcw 60 r V M (gAt kd cs T (.code round74::on74)) w) (w:World) (hF:Fb J N i V b w) :
  GG Try.prog link.tWg (N+4) J.C V (AtGo Try.prog (BornJ J N ok hcw) i (Zs J N kd cs ok hcw r) V) 10 (gAt kd cs T (.inRegion (R74 6) []::.code (.region 7 (R74 7) false)::go74)) w:=by
 revert w
 refine pstep dm0 (fb_rl hb) rfl (fun w _=>stepG_region_end) ?_
 refine pstep dm0 (fb_rl hb) rfl (fun w _=>stepG_region) ?_
 rw[z7,show List.range 2=[0,1] from rfl]
 refine pstep dm0 (fb_rl hb) rfl (fun w _=>qT hk (by rw[z7];omega) p70.2.1 p70.2.2 (q70 (h:=⟨N+4,N,N+1,b,N+3⟩) hT.tm.s8 hT.tm.s2 hT.tm.s3 h9 hT.tm.s7) (by simp)) ?_
 intro w hF
 refine Goes.stop fun w1 h1=>?_
 have hF1:=fb_rl hb _ _ h1 hF
 have hy:=q71 (w:=w1) (ds:=[]) (hT.tm.get (d:=27) (by omega) (.func (.func 105) #[] (Held.vals ⟨N+4,N,N+1,b,N+3⟩)))
 have hs:=stepG_spawn (main:=true) (k:=go74) (cs:=cs) (rest:=[]) (get74 (show 1<(R74 7).size by rw[z7];omega)) (yw p71.2.2) (show (b74 kd).kind≠.early from hk) hy.1 rfl
 have hl:listed Try.prog (b74 kd).fn ⟨T.setIfInBounds 27 (.func (.func 105) #[] (Held.vals ⟨N+4,N,N+1,b,N+3⟩)),[]⟩ (o74 7 1) w1=#[]:=by
  unfold listed
  rw[hy.2]
  exact seen_none _ _
 rw[hl,p71.2.1] at hs
 exact⟨rfl,_,_,hs,hF1.1.born ok hcw hi hb hF1.2,after74 hk (hT.set (d:=27) _ (by omega)) hi hn ih hF1.1⟩
set_option maxRecDepth 100000 in
theorem box74 (hk:kd≠.early) {T3:Array Value} {V' M':Nat→Prop} {w3:World} {b:Nat} (hT3:Lp T3 N J.n i J.U) (h9:T3[9]?=some (ptr b)) (h25':T3[25]?=some (.int .i64 i)) (hF3:MF J N V' w3) (hbV:V' b) (hbM:M' b) (hbc:w3.heap[b]?=some (.cells #[.int .i64 0] 3)) (hb5:N+5≤b)
  (hlt:i<J.n) (hn:J.n≤16) (ih:∀ V M T w,Lp T N J.n (i+1) J.U→MF J N V w→RunR J N kd cs ok hcw 60 r V M (gAt kd cs T (.code round74::on74)) w) :
  Run Try.prog link.tWg (N+4) J.C (AtKd Try.prog link.tWg (N+4) J.C (BornJ J N ok hcw) i (Zs J N kd cs ok hcw r)) 39 V' M' (gAt kd cs T3 (.inRegion (R74 5) [2]::.code (.seq (.region 6 (R74 6) false) (.region 7 (R74 7) false))::go74)) w3:=by
 have hbC:b≠J.C:=by have:=hF3.c;omega
 refine JK (k:=38) rfl fun w4 h4=>?_
 replace hF3:=hF3.rely h4
 replace hbc:=(h4.blk b hbV).trans hbc
 have hbl:=hF3.lt b hbV
 clear h4
 have hcell:w4.cell? ⟨b,0,none⟩=some (.int .i64 0):=by simp[World.cell?,hbc]
 have hfroz:w4.frozen? ⟨b,0,none⟩=false:=by simp[World.frozen?,hbc]
 rw[zeh (w':=w4.setCell ⟨b,0,none⟩ (.int .i64 i)) hk (by rw[z5];omega) p52.2.1 p52.2.2 (q52 h9 h25' hcell hfroz) (by simp),goes_go]
 refine⟨gua_set hbM hbl hbC,?_⟩
 rw[yj (QM ..),yj (QM ..)]
 have hF5:Fb J N i V' b (w4.setCell ⟨b,0,none⟩ (.int .i64 i)):=⟨hF3.set hb5 _,by rw[QN hbc];rfl⟩
 generalize w4.setCell ⟨b,0,none⟩ (.int .i64 i)=w5 at hF5
 refine zcU ?_
 revert w5
 refine pstep dc0 (fb_rl hbV) rfl (fun w _=>stepG_region_end) ?_
 refine pstep dc0 (fb_rl hbV) rfl (fun w _=>stepG_seq) ?_
 refine pstep dc0 (fb_rl hbV) rfl (fun w _=>stepG_region) ?_
 rw[z6,show List.range 1=[0] from rfl]
 refine pstep dc0 (fb_rl hbV) rfl (fun w _=>enter_add hk hT3.tm.s8 w) ?_
 intro w hF
 have hput:(⟨T3,[]⟩:Act).put (((R74 6)[0]?).bind (·.dst)) (.tuple #[])=⟨T3.setIfInBounds 26 (.tuple #[]),[]⟩:=by
  rw[get74 (by rw[z6];omega),Option.bind_some,p60.2.1]
  rfl
 have h9':(T3.setIfInBounds 26 (.tuple #[]))[9]?=some (ptr b):=by
  rw[Array.getElem?_setIfInBounds_ne (by omega)]
  exact h9
 have hT':∀ w,Fb J N i V' b w→WgLive link.tWg (N+4) w→GG Try.prog link.tWg (N+4) J.C V' (AtGo Try.prog (BornJ J N ok hcw) i (Zs J N kd cs ok hcw r) V') 10
   (G ((b74 kd).at ((⟨T3,[]⟩:Act).put (((R74 6)[0]?).bind (·.dst)) (.tuple #[])) (.inRegion (R74 6) []::.code (.region 7 (R74 7) false)::go74)) cs) w:=fun w hF _=>by
  rw[hput]
  exact spawn74 hk (hT3.set (d:=26) _ (by omega)) h9' hbV hlt hn ih w hF
 have hA:=addPos (P:=Try.prog) (L:=link) (F:=Fb J N i V' b) (b₀:=b74 kd) (a₀:=⟨T3,[]⟩) (ops₀:=R74 6) (i₀:=0) (rest₀:=[]) (k₀:=.code (.region 7 (R74 7) false)::go74) (cs:=cs) (mT:=10) wgLib hcw hF3.vW (fun _ _ r h=>fb_rl hbV _ _ r h) hT' w ⟨hF,hF.1.live⟩
 have hP:=zbd hA 22
 walk_nrmf addFn
 exact hP
set_option maxRecDepth 100000 in
theorem loop74_runs (hk:kd≠.early):∀ r i,i+r=J.n→∀ (V M:Nat→Prop) (T:Array Value) (w:World),Lp T N J.n i J.U→MF J N V w→RunR J N kd cs ok hcw 60 r V M (gAt kd cs T (.code round74::on74)) w:=by
 intro r
 induction r with
 | zero =>
  intro i hi V M T w hT hF
  have hn:=hF.n
  refine zcU (m:=60) ?_
  refine head74 (n:=54) hk hT (by omega) hn ?_ w hF
  rw[show decide (i<J.n)=false by simp;omega]
  refine pstep dc0 mf_rl rfl (fun w _=>stepG_exit (k':=end74) rfl) ?_
  intro w hF
  exact zbd (into_wait hk (hT.tm.set _ (by omega)) w hF) 47
 | succ r ih =>
  intro i hi V M T w hT hF
  have hn:=hF.n
  have hlt:i<J.n:=by omega
  show Run Try.prog link.tWg (N+4) J.C (AtKd Try.prog link.tWg (N+4) J.C (BornJ J N ok hcw) (J.n-(r+1)) (Zs J N kd cs ok hcw r)) 60 V M _ w
  rw[show J.n-(r+1)=i by omega]
  refine zcu (k:=40) (m:=20) ?_
  refine head74 (n:=14) hk hT (by omega) hn ?_ w hF
  rw[show decide (i<J.n)=true by simp;omega]
  have hT1:=hT.set (d:=24) (.bool true) (by omega)
  refine pstep dc0 mf_rl rfl (fun w _=>stepG_skip) ?_
  refine pstep dc0 mf_rl rfl (fun w _=>stepG_seq) ?_
  refine pstep dc0 mf_rl rfl (fun w _=>stepG_block) ?_
  refine pstep dc0 mf_rl rfl (fun w _=>stepG_seq) ?_
  refine pstep dc0 mf_rl rfl (fun w _=>stepG_region) ?_
  rw[z5,show List.range 3=[0,1,2] from rfl]
  refine pstep dc0 mf_rl rfl (fun w _=>qT hk (by rw[z5];omega) p50.2.1 p50.2.2 (q50 hT1.s23) (by simp)) ?_
  have hT2:=hT1.set (d:=25) (.int .i64 i) (by omega)
  have h25:=hT1.tm.get (d:=25) (by omega) (.int .i64 i)
  generalize (T.setIfInBounds 24 (.bool true)).setIfInBounds 25 (.int .i64 i)=T2 at hT2 h25
  intro w hF
  refine Goes.stop fun w1 h1=>?_
  replace hF:=hF.rely h1
  clear h1
  refine JK (k:=39) rfl fun w2 h2=>?_
  replace hF:=hF.rely h2
  clear h2
  rw[qT (w':=w2.alloc (.cells #[.int .i64 0] 3)) (v:=ptr w2.heap.size) hk (by rw[z5];omega) p51.2.1 p51.2.2 q51 (by simp),goes_go]
  refine⟨gua_alloc _,?_⟩
  have hF3:=hF.alloc (.cells #[.int .i64 0] 3)
  have hb:w2.heap.size<(w2.alloc (.cells #[.int .i64 0] 3)).heap.size:=by rw[size_alloc];omega
  exact box74 hk (hT2.set (d:=9) (ptr w2.heap.size) (by omega)) (hT2.tm.get (d:=9) (by omega) (ptr w2.heap.size)) (by rw[Array.getElem?_setIfInBounds_ne (by omega)];exact h25) hF3 (.inr ⟨Nat.le_refl _,hb⟩) (.inr ⟨Nat.le_refl _,hb⟩) (jT rfl) hF.sz hlt hn
   (fun V M T w h1 h2=>ih (i+1) (by omega) V M T w h1 h2)
end
end
section
open Go.ConcR (KK WgAt stA smA rd wr mk DC0 Payload wgBlock)
section
variable {J:Job} {N i:Nat} {kd:CallKind} {cs:List Frame} {ok:JobOk J} {hcw:J.C≠N+4} {V M:Nat→Prop} {w:World} {T:Array Value} {g:Goroutine} {m n r k:Nat}
theorem runR_step (hr:g.status=.running) (h:∀ w1,RmJ J N V w w1→(stepG Try.prog true g w1).goes fun g' w' es=>Gua J.C M V (fun _=>False) w1 w' es∧RunR J N kd cs ok hcw k r (fun b=>V b∨fresh w1 w' b) (fun b=>M b∨fresh w1 w' b) g' w'):RunR J N kd cs ok hcw (k+1) r V M g w:=by
 cases r with
 | zero=>exact JK hr h
 | succ r=>exact JK hr h
theorem rest74_runs (hk:kd≠.early) (hT:Tm T N J.U) {s:Option Addr} {m:Nat} (ha:J.a=.slice s J.n m) (hF:MF J N V w):RunR J N kd cs ok hcw 71 J.n V M (gAt kd cs T [.code rest74]) w:=by
 refine zcw (k:=67) (m:=4) ?_
 suffices key:∀ w,MF J N V w→Goes Try.prog true (RmJ J N V) DC0 (fun g w=>RunR J N kd cs ok hcw 67 J.n V M g w) 4 (gAt kd cs T [.code rest74]) w from key w hF
 clear hF
 refine pstep dc0 mf_rl rfl (fun w _=>stepG_seq) ?_
 refine pstep dc0 mf_rl rfl (fun w _=>stepG_seq) ?_
 refine pstep dc0 mf_rl rfl (fun w _=>stepG_region) ?_
 rw[z3,show List.range 4=[0,1,2,3] from rfl]
 refine pstep dc0 mf_rl rfl (fun w _=>qT hk (by rw[z3];omega) p30.2.1 p30.2.2 (q30 hT.s2) (by simp)) ?_
 have h20:=hT.get (d:=20) (by omega) (ptr N)
 replace hT:=hT.set (d:=20) (ptr N) (by omega)
 generalize T.setIfInBounds 20 (ptr N)=T1 at hT h20
 intro w hF
 refine Goes.stop fun w1 h1=>?_
 replace hF:=hF.rely h1
 clear h1
 refine runR_step (k:=66) rfl fun w2 h2=>?_
 replace hF:=hF.rely h2
 clear h2
 have hc:w2.cell? ⟨N,0,none⟩=some J.a:=by simp[World.cell?,hF.k]
 rw[qT hk (by rw[z3];omega) p31.2.1 p31.2.2 (q31 h20 hc) (by simp),goes_go]
 refine⟨zbc rfl (.refl w2) fun e he=>?_,?_⟩
 ·simp only[List.mem_toArray,List.mem_cons,List.not_mem_nil,or_false] at he
  subst he
  exact zdm hF.v0 (hF.lt N hF.v0)
 rw[jF,jF]
 have h21:=hT.get (d:=21) (by omega) J.a
 replace hT:=hT.set (d:=21) J.a (by omega)
 generalize T1.setIfInBounds 21 J.a=T2 at hT h21
 rw[ha] at h21
 refine zcw (k:=60) (m:=6) ?_
 suffices key:∀ w,MF J N V w→Goes Try.prog true (RmJ J N V) DC0 (fun g w=>RunR J N kd cs ok hcw 60 J.n V M g w) 6 (gAt kd cs T2 (.inRegion (R74 3) [2,3]::.code loop74::end74)) w from key w2 hF
 clear hF
 refine pstep dc0 mf_rl rfl (fun w _=>qT hk (by rw[z3];omega) p32.2.1 p32.2.2 (q32 h21) (by simp)) ?_
 refine pstep dc0 mf_rl rfl (fun w _=>qT hk (by rw[z3];omega) p33.2.1 p33.2.2 q33 (by simp)) ?_
 refine pstep dc0 mf_rl rfl (fun w _=>stepG_region_end) ?_
 refine pstep dc0 mf_rl rfl (fun w _=>stepG_block) ?_
 refine pstep dc0 mf_rl rfl (fun w _=>stepG_loop) ?_
 intro w hF
 refine Goes.stop fun w1 h1=>loop74_runs hk J.n 0 (by omega) V M _ w1 ⟨(hT.set _ (by omega)).set _ (by omega),?_,(hT.set _ (by omega)).get (by omega) _⟩ (hF.rely h1)
 rw[Array.getElem?_setIfInBounds_ne (by omega)]
 exact hT.get (by omega) _
theorem anch_round (hcw:J.C≠N+4) (h:Anch J N kd cs V g w):∃ m,GG Try.prog link.tWg (N+4) J.C V (AtW1 Try.prog link.tWg (N+4) J.C (Anch J N kd cs) (Out J N kd cs) V) m g w:=by
 obtain⟨T,Tw,hT,h84,h0,hF,rfl⟩:=h
 have hput:(⟨T,[]⟩:Act).put (((R74 9)[0]?).bind (·.dst)) (.tuple #[])=⟨T.setIfInBounds 29 (.tuple #[]),[]⟩:=by
  rw[get74 (by rw[z9];omega),Option.bind_some,p90.2.1]
  rfl
 have hT':∀ w,MF J N V w→WgLive link.tWg (N+4) w→GG Try.prog link.tWg (N+4) J.C V (fun g w=>g.status=.running∧Out J N kd cs V g w) 2
   (G ((b74 kd).at ((⟨T,[]⟩:Act).put (((R74 9)[0]?).bind (·.dst)) (.tuple #[])) (.inRegion (R74 9) []::[.code tail74])) cs) w:=fun w hF _=>by
  rw[hput]
  refine pstep dm0 mf_rl rfl (fun w _=>stepG_region_end) (fun w hF=>?_) w hF
  exact Goes.stop fun w1 h1=>⟨rfl,_,hT.set _ (by omega),rfl,hF.rely h1⟩
 exact waitRound (F:=MF J N V) (b₀:=b74 kd) (a₀:=⟨T,[]⟩) (ops₀:=R74 9) (i₀:=0) (rest₀:=[]) (k₀:=[.code tail74]) (mT:=2) wgLib hcw hF.vW (fun _ _ r h=>h.rely r) (fun Tw w h1 h2 h3 _=>⟨T,Tw,hT,h1,h2,h3,rfl⟩) hT' Tw w h84 h0 ⟨hF,hF.live⟩
end
section
variable {w:World} {kv:Array Value} {mv:Value} {n:Nat}
structure Made (w w1:World) (kv:Array Value) (mv:Value) (n:Nat):Prop where
 size:w1.heap.size=w.heap.size+5
 k:w1.heap[w.heap.size]?=some (.cells kv 29)
 m:w1.heap[w.heap.size+1]?=some (.cells #[mv] 22)
 c:w1.heap[w.heap.size+2]?=some (.cells (rowC n) 141)
 p:w1.heap[w.heap.size+3]?=some (.cells #[.slice (some ⟨w.heap.size+2,0,none⟩) n n] 129)
 wg:WgAt link.tWg (w.heap.size+4) w1 0 0
 old:∀ b,b<w.heap.size→w1.heap[b]?=w.heap[b]?
 calm:Go.Par.Calm w w1
theorem made74_made:Made w (made74 w kv mv n) kv mv n:=by
 unfold made74
 have e1:=size_alloc w (.cells kv 29)
 have k1:(w.alloc (.cells kv 29)).heap[w.heap.size]?=some (.cells kv 29):=jT rfl
 have o1:∀ b,b<w.heap.size→(w.alloc (.cells kv 29)).heap[b]?=w.heap[b]?:=fun b hb=>qf hb rfl
 have c1:Go.Par.Calm w (w.alloc (.cells kv 29)):=⟨rfl,rfl,rfl⟩
 generalize w.alloc (.cells kv 29)=w1 at *
 have e2:=size_alloc w1 (.cells #[mv] 22)
 have k2:=qf (o:=.cells #[mv] 22) (by omega) k1
 have m2:(w1.alloc (.cells #[mv] 22)).heap[w.heap.size+1]?=some (.cells #[mv] 22):=jT e1
 have o2:∀ b,b<w.heap.size→(w1.alloc (.cells #[mv] 22)).heap[b]?=w.heap[b]?:=fun b hb=>qf (by omega) (o1 b hb)
 have c2:Go.Par.Calm w (w1.alloc (.cells #[mv] 22)):=⟨c1.os,c1.output,c1.tape⟩
 generalize w1.alloc (.cells #[mv] 22)=w2 at *
 have e3:=size_alloc w2 (.cells (rowC n) 141)
 have k3:=qf (o:=.cells (rowC n) 141) (by omega) k2
 have m3:=qf (o:=.cells (rowC n) 141) (by omega) m2
 have r3:(w2.alloc (.cells (rowC n) 141)).heap[w.heap.size+2]?=some (.cells (rowC n) 141):=jT (by omega)
 have o3:∀ b,b<w.heap.size→(w2.alloc (.cells (rowC n) 141)).heap[b]?=w.heap[b]?:=fun b hb=>qf (by omega) (o2 b hb)
 have c3:Go.Par.Calm w (w2.alloc (.cells (rowC n) 141)):=⟨c2.os,c2.output,c2.tape⟩
 generalize w2.alloc (.cells (rowC n) 141)=w3 at *
 have e4:=size_alloc w3 (.cells #[.slice none 0 0] 129)
 have k4:=qf (o:=.cells #[.slice none 0 0] 129) (by omega) k3
 have m4:=qf (o:=.cells #[.slice none 0 0] 129) (by omega) m3
 have r4:=qf (o:=.cells #[.slice none 0 0] 129) (by omega) r3
 have p4:(w3.alloc (.cells #[.slice none 0 0] 129)).heap[w.heap.size+3]?=some (.cells #[.slice none 0 0] 129):=jT (by omega)
 have o4:∀ b,b<w.heap.size→(w3.alloc (.cells #[.slice none 0 0] 129)).heap[b]?=w.heap[b]?:=fun b hb=>qf (by omega) (o3 b hb)
 have c4:Go.Par.Calm w (w3.alloc (.cells #[.slice none 0 0] 129)):=⟨c3.os,c3.output,c3.tape⟩
 generalize w3.alloc (.cells #[.slice none 0 0] 129)=w4 at *
 have ha:=aside_setCell w4 ⟨w.heap.size+3,0,none⟩ (.slice (some ⟨w.heap.size+2,0,none⟩) n n)
 have p5:=QN (o:=0) p4 (.slice (some ⟨w.heap.size+2,0,none⟩) n n)
 have hb5:∀ b,b≠w.heap.size+3→(w4.setCell ⟨w.heap.size+3,0,none⟩ (.slice (some ⟨w.heap.size+2,0,none⟩) n n)).heap[b]?=w4.heap[b]?:=fun b hb=>ha.block b hb
 have c5:Go.Par.Calm w (w4.setCell ⟨w.heap.size+3,0,none⟩ (.slice (some ⟨w.heap.size+2,0,none⟩) n n)):=c4.trans ⟨ha.os,ha.output,ha.tape⟩
 have e5:(w4.setCell ⟨w.heap.size+3,0,none⟩ (.slice (some ⟨w.heap.size+2,0,none⟩) n n)).heap.size=w.heap.size+4:=by rw[QM];omega
 clear ha
 generalize w4.setCell ⟨w.heap.size+3,0,none⟩ (.slice (some ⟨w.heap.size+2,0,none⟩) n n)=w5 at *
 have e6:=size_alloc w5 (wgBlock 138 0 0)
 exact⟨by omega,qf (by omega) ((hb5 _ (by omega)).trans k4),qf (by omega) ((hb5 _ (by omega)).trans m4),qf (by omega) ((hb5 _ (by omega)).trans r4),qf (by omega) p5,jT (by omega),
  fun b hb=>qf (by omega) ((hb5 b (by omega)).trans (o4 b hb)),⟨c5.os,c5.output,c5.tape⟩⟩
end
end
section
open Go.ConcR (KK WgAt stA smA rd wr mk DC0 Payload wgBlock)
def Goods (J:Job) (w:World):Prop:=∀ i,i<J.n→∀ w1:World,(∀ b,J.N b→w1.heap[b]?=w.heap[b]?)→w.heap.size≤w1.heap.size→w1.os=w.os →
 Good Sw (Done Sw 107 (J.Rl i)) ⟨Frame.enter Sw 107 #[.agg #[J.a,J.b,J.c],J.mv,.int .i64 i] .normal,[door Sw],maskN J.N w1⟩
section
variable {J:Job} {kd:CallKind} {cs:List Frame} {gs:Array Goroutine} {w w1:World} {sl:Option (Nat×Nat)} {t:Trace} {q:Nat→Nat} {Sb:Nat→Prop} {V:Nat→Prop}
theorem made_mf (hn:J.n≤16) (hc:J.C=w.heap.size+2) (hm:Made w w1 #[J.a,J.b,J.c] J.mv J.n) (hSb:∀ b,Sb b→b<w.heap.size) (hN:∀ b,J.N b→b<w.heap.size∧¬ Sb b∧Seen w b) (hg:Sw.globals.size≤w.heap.size) (hgood:Goods J w) :
  MF J w.heap.size (fun b=>b<w1.heap.size∧b≠w.heap.size+2∧b≠w.heap.size+4∧¬ Sb b) w1:=by
 have hs:=hm.size
 have hno:∀ b,w.heap.size≤b→¬ Sb b:=fun b h x=>by have:=hSb b x;omega
 exact⟨hc,hn,fun h=>h.2.1 rfl,fun h=>h.2.2.1 rfl,fun b h=>h.1,by omega,fun b h=>⟨by have:=(hN b h).1;omega,by have:=(hN b h).1;omega,by have:=(hN b h).1;omega,(hN b h).2.1⟩,fun b h=>(hN b h).1,⟨by omega,by omega,by omega,hno _ (by omega)⟩,⟨by omega,by omega,by omega,hno _ (by omega)⟩,⟨by omega,by omega,by omega,hno _ (by omega)⟩,
  hm.k,hm.m,by rw[hc];exact hm.p,⟨_,by rw[hc];exact hm.c,rowC_size J.n⟩,⟨_,_,hm.wg⟩,fun b h=>Zj (hN b h).2.2 (hm.old b (hN b h).1),by omega,
  fun i hi v h1 h2 h3=>hgood i hi v (fun b h=>(h1 b h).trans (hm.old b (hN b h).1)) (by omega) (h3.trans hm.calm.os)⟩
structure Joined (J:Job) (kd:CallKind) (cs:List Frame) (Sb:Nat→Prop) (w:World) (gs2:Array Goroutine) (w2:World) (t2:Trace):Prop where
 main:∃ T,Tm T w.heap.size J.U∧gs2[0]?=some (gAt kd cs T [.code tail74])
 lv:∃ q2,Leavers Try.prog t2 gs2 q2
 tr:Tr (fun b=>Sb b∨b=w.heap.size+4) (gs2.size-1) w2.heap.size t2
 old:∀ b,b<w.heap.size→¬ Sb b→w2.heap[b]?=w.heap[b]?
 size:w.heap.size+5≤w2.heap.size
 calm:Go.Par.Calm w w2
 k:w2.heap[w.heap.size]?=some (.cells #[J.a,J.b,J.c] 29)
 p:w2.heap[w.heap.size+3]?=some (.cells #[.slice (some ⟨J.C,0,none⟩) J.n J.n] 129)
 row:∃ c,w2.heap[J.C]?=some (.cells c 141)∧c.size=3*J.n
 res:∃ Pr Sd:Nat→Nat→Prop,(∀ i,i<J.n→Res J i (Pr i) (Sd i) w2)∧(∀ i b,i<J.n→Pr i b→w.heap.size+5≤b∧b<w2.heap.size)∧∀ i i' b,i<J.n→i'<J.n→Pr i b→Pr i' b→i=i'
theorem cl_inj (i i' o:Nat) (h:cl i o) (h':cl i' o):i=i':=h.symm.trans h'
theorem anch_run (V:Nat→Prop) (g:Goroutine) (w:World) {N:Nat} (h:Anch J N kd cs V g w):g.status=.running:=by
 obtain⟨_,_,_,_,_,_,rfl⟩:=h
 rfl
theorem company74 (ok:JobOk J) (hk:kd≠.early) (hc:J.C=w.heap.size+2) {s:Option Addr} {m:Nat} (ha:J.a=.slice s J.n m) (hn:J.n≤16) (hm:Made w w1 #[J.a,J.b,J.c] J.mv J.n) (hSb:∀ b,Sb b→b<w.heap.size) (hN:∀ b,J.N b→b<w.heap.size∧¬ Sb b∧Seen w b) (hg:Sw.globals.size≤w.heap.size) (hgood:Goods J w)
  {T:Array Value} (hT:Tm T w.heap.size J.U) (h0:gs[0]?=some (gAt kd cs T [.code rest74])) (hlv:Leavers Try.prog t gs q) (htr:Tr (fun b=>Sb b∨b=w.heap.size+4) (gs.size-1) w1.heap.size t) (hnr:NoRelease (stA (w.heap.size+4)) t) :
  ∃ k gs2 w2 sl2 t2,runNT Try.prog k (crowd gs w1 sl) t=(.next (crowd gs2 w2 sl2),t2)∧Joined J kd cs Sb w gs2 w2 t2:=by
 have hcw:J.C≠w.heap.size+4:=by omega
 have hs:=hm.size
 have hF:=made_mf hn hc hm hSb hN hg hgood
 have hk0 : 1≤gs.size:=(Array.getElem?_eq_some_iff.1 h0).1
 let V:Nat→Prop:=fun b=>b<w1.heap.size∧b≠w.heap.size+2∧b≠w.heap.size+4∧¬ Sb b
 have hcom:=Com.start2 (W:=worker J (w.heap.size+4) ok hcw) (n:=J.n) (Sb:=Sb) (K:=V) (V:=V) (M:=fun _=>False) (q:=q) rfl hk0 hlv htr (fun b h=>by have:=hSb b h;omega) (by omega) (by omega) hcw (fun h=>by have:=hSb _ h;omega) (hF.row.row) hnr (fun _=>⟨7,0,0⟩) (fun _=>(0,none))
  (fun b h=>⟨h.1,by rw[hc];exact h.2.1,h.2.2.1,h.2.2.2⟩) (fun _ h=>h.elim) (fun b h=>⟨h,fun x=>x⟩)
 have hrun:=rest74_runs (kd:=kd) (cs:=cs) (ok:=ok) (hcw:=hcw) (V:=V) (M:=fun _=>False) hk hT ha hF
 have hinv:∃ S F,Inv (worker J (w.heap.size+4) ok hcw) J.n gs.size Sb V w1 (Anch J w.heap.size kd cs) (Out J w.heap.size kd cs) ⟨S,fun _=>(0,none),F⟩ (crowd gs w1 sl) t:=by
  have start:∀ tag,MSit Try.prog link.tWg (w.heap.size+4) J.C J.n (BornW (worker J (w.heap.size+4) ok hcw)) (Anch J w.heap.size kd cs) (Out J w.heap.size kd cs) tag 0 V (fun _=>False) 71 0 (gAt kd cs T [.code rest74]) w1→Go.ConcN.Mode 0 (fun _=>⟨7,0,0⟩) tag 0 0→tag≠.ret →
    ∃ S F,Inv (worker J (w.heap.size+4) ok hcw) J.n gs.size Sb V w1 (Anch J w.heap.size kd cs) (Out J w.heap.size kd cs) ⟨S,fun _=>(0,none),F⟩ (crowd gs w1 sl) t:=fun tag hx hy hz =>
   ⟨_,_,⟨0,fun _=>⟨7,0,0⟩,fun _=>(0,none),fun _ _=>False,fun _ _=>False,V,fun _=>False⟩,gs,w1,sl,tag,71,0,_,0,0,q,rfl,h0,hx,hcom,hm.wg,hy,fun h=>absurd h hz,fun _=>zcA _,rfl⟩
  rcases Nat.eq_zero_or_pos J.n with hJn|hpos
  ·have h1:Run Try.prog link.tWg (w.heap.size+4) J.C (AtWd Try.prog link.tWg (w.heap.size+4) J.C (Anch J w.heap.size kd cs)) 71 V (fun _=>False) (gAt kd cs T [.code rest74]) w1:=by
    rw[hJn] at hrun
    exact hrun
   refine start .kd ?_ (Mode.opn (tag:=.kd) trivial (fun i hi=>absurd hi (Nat.not_lt_zero _)) (fun vs h=>by simp at h)) (by simp)
   have h2:=MSit.kd (Born:=BornW (worker J (w.heap.size+4) ok hcw)) (Out:=Out J w.heap.size kd cs) (n:=J.n) h1
   exact hJn▸h2
  ·obtain⟨r,hJn⟩:∃ r,J.n=r+1:=⟨J.n-1,by omega⟩
   have h1:Run Try.prog link.tWg (w.heap.size+4) J.C (AtKd Try.prog link.tWg (w.heap.size+4) J.C (BornJ J w.heap.size ok hcw) (J.n-(r+1)) (Zs J w.heap.size kd cs ok hcw r)) 71 V (fun _=>False) (gAt kd cs T [.code rest74]) w1:=by
    rw[hJn] at hrun
    exact hrun
   have hM:Go.ConcN.Mode 0 (fun _=>(⟨7,0,0⟩:WD)) (.sp r 5) 0 0:=by
    have h3:=Mode.opn (j:=0) (D:=fun _=>(⟨7,0,0⟩:WD)) (tag:=.sp r 5) trivial (fun i hi=>absurd hi (Nat.not_lt_zero _)) (fun vs h=>by simp at h)
    have e:(((Vc 0 (fun _=>(⟨7,0,0⟩:WD))+pend (.sp r 5):Nat):Int)*KK)=0:=by
     rw[show Vc 0 (fun _=>(⟨7,0,0⟩:WD))=0 from rfl,show pend (.sp r 5)=0 from rfl]
     exact Int.zero_mul _
    rw[e] at h3
    exact h3
   refine start (.sp r 5) ?_ hM (by simp)
   have h2:=MSit.skd (Out:=Out J w.heap.size kd cs) (n:=J.n) (by omega) h1
   have hz:J.n-(r+1)=0:=by omega
   exact Eq.subst (motive:=fun j=>MSit Try.prog link.tWg (w.heap.size+4) J.C J.n (BornW (worker J (w.heap.size+4) ok hcw)) (Anch J w.heap.size kd cs) (Out J w.heap.size kd cs) (.sp r 5) j V (fun _=>False) 71 0 _ w1) hz h2
 obtain⟨S,F,hinv⟩:=hinv
 obtain⟨k,gs2,w2,sl2,t2,hk2,G,a,q2,h1,h2,h3,h4,h5,h6,h7,h8⟩:=company_runs cl_inj (fun i=>by show (kw i-1) / 3=i;unfold kw;omega) hk0 (by omega) (fun V g w h=>anch_run V g w h) (fun V g w h=>anch_round hcw h) _ _ (zct _ _ fun i _=>zcA _) F _ t hinv
 refine⟨k,gs2,w2,sl2,t2,hk2,?_⟩
 obtain⟨T2,hT2,rfl,hF2⟩:=h3 w2 (Rly.refl w2)
 have hq2:∀ i,i<G.j→(G.D i).stage=1:=fun i hi=>h7 i (h5▸hi)
 have hkeep:∀ b,V b→w2.heap[b]?=w1.heap[b]?:=fun b hb=>(h4.keep b hb).2.2
 have hVs:∀ b,V b→G.V b:=fun b hb=>(h4.keep b hb).1
 have hgrow:=h4.grow
 refine⟨⟨T2,hT2,h1⟩,Com.leavers hk0 h4 hq2,Com.tr hk0 h4 hq2 (by rw[h5];exact h8),fun b hb hnb=>(hkeep b ⟨by omega,by omega,by omega,hnb⟩).trans (hm.old b hb),by omega,hm.calm.trans h4.calm,hF2.k,hF2.p,hF2.row,G.Pr,G.Sd,fun i hi=>?_,fun i b hi hp=>?_,fun i i' b hi hi' hp hp'=>h4.geo.dis i i' b (by omega) (by omega) hp hp'⟩
 ·obtain⟨x,hx,hsx⟩:=h4.wk i (by omega)
  rcases hsx with ⟨e,_⟩|⟨_,_,hr⟩
  ·have:=h7 i hi;omega
  ·exact hr
 ·obtain⟨p1,p2,p3,p4,p5⟩:=h4.geo.pr i b (by omega) hp
  refine⟨?_,p1⟩
  refine Classical.byContradiction fun hlt=>p5 (hVs b ⟨by omega,by rw[← hc];exact p2,p3,p4⟩)
theorem Made.at {kv:Array Value} {mv:Value} {n:Nat} (h:Made w w1 kv mv n) (d:Nat):Made w (w1.at d) kv mv n:=⟨h.size,h.k,h.m,h.c,h.p,h.wg,h.old,⟨h.calm.os,h.calm.output,h.calm.tape⟩⟩
def slots74 (args:Array Value):Array Value:=args++Array.replicate (68-args.size) undef
theorem enter74 (args:Array Value):Frame.enter Try.prog 74 args kd=(b74 kd).at ⟨slots74 args,[]⟩ [.code body74]:=by
 have hn:Try.f74.ntmps=68:=by kernel_rfl
 have hb:Try.f74.body=some body74:=by kernel_rfl
 simp[Frame.enter,Frame.at,Try.func74,hb,b74,slots74]
theorem YM (args:Array Value) : 68≤(slots74 args).size:=by
 unfold slots74
 rw[Array.size_append,Array.size_replicate]
 omega
theorem YK {args:Array Value} {j:Nat} {v:Value} (h:args[j]?=some v):(slots74 args)[j]?=some v:=by
 have hj:=(Array.getElem?_eq_some_iff.1 h).1
 unfold slots74
 rw[Array.getElem?_append_left hj]
 exact h
theorem right74 (ok:JobOk J) (hk:kd≠.early) (hc:J.C=w.heap.size+2) {s s':Option Addr} {m l' m':Nat} (ha:J.a=.slice s J.n m) (hmv:J.mv=.slice s' l' m') (hn:J.n≤16) (hSb:∀ b,Sb b→b<w.heap.size) (hN:∀ b,J.N b→b<w.heap.size∧¬ Sb b∧Seen w b) (hg:Sw.globals.size≤w.heap.size) (hgood:Goods J w)
  {args:Array Value} (hU:J.U=((slots74 args).size,fun j=>(slots74 args).getD j undef)) (a0:args[0]?=some (.agg #[J.a,J.b,J.c])) (a1:args[1]?=some J.mv) (h0:gs[0]?=some (G (Frame.enter Try.prog 74 args kd) cs)) (hlv:Leavers Try.prog t gs q) (htr:Tr Sb (gs.size-1) w.heap.size t) :
  ∃ k gs2 w2 sl2 t2,runNT Try.prog k (crowd gs w sl) t=(.next (crowd gs2 w2 sl2),t2)∧Joined J kd cs Sb w gs2 w2 t2:=by
 rw[enter74] at h0
 have hb:=YM args
 have e0:=YK a0
 have e1:=YK a1
 have eU1:J.U.1=(slots74 args).size:=by rw[hU]
 have eU2:∀ j,j<J.U.1→(slots74 args)[j]?=some (J.U.2 j):=fun j hj=>by
  rw[hU] at hj ⊢
  simp only at hj ⊢
  rw[Array.getD_eq_getD_getElem?,Array.getElem?_eq_getElem hj]
  rfl
 generalize slots74 args=T at h0 hb e0 e1 eU1 eU2
 have hgo:=prefix74 (U:=J.U) (Sb:=fun b=>Sb b∨b=w.heap.size+4) (N0:=w.heap.size) (w:=w) (kd:=kd) (cs:=cs) (T:=T) (a:=J.a) (b:=J.b) (c:=J.c) (s':=s') (l':=l') (m':=m') hk hn (Nat.le_refl _)
  (fun b h=>h.imp (hSb b) id) (by omega) eU1.symm ha e0 (by rw[← hmv];exact e1) (fun j _ h2=>eU2 j h2)
 obtain⟨k,gs1,g1,w1,sl1,t1,q1,r1,r2,⟨⟨T,hT,rfl⟩,d,rfl⟩,r4,r5,r6,_,_,_,rA⟩:=alone_runs (Sb:=fun b=>Sb b∨b=w.heap.size+4) (W0:=w) (fun g w' h=>by obtain⟨⟨T,_,rfl⟩,_⟩:=h;rfl) 30 _ gs _ w sl t q (Nat.le_refl _) h0 hlv (htr.more (by omega)) (fun _ _=>rfl) (.refl w) (Nat.le_refl _) hgo
 rw[← hmv] at r1 r5
 obtain⟨k2,gs2,w2,sl2,t2,r7,r8⟩:=company74 (sl:=sl1) (gs:=gs1) ok hk hc ha hn ((made74_made (w:=w) (kv:=#[J.a,J.b,J.c]) (mv:=J.mv) (n:=J.n)).at d) hSb hN hg hgood hT r2 r4 r5 (rA _ (htr.norel (by omega)))
 refine⟨k+k2,gs2,w2,sl2,t2,?_,r8⟩
 rw[runNT_add,r1]
 exact r7
end
end
end Go.Gal
namespace Go.Gal
open Go Go.Par Go.Proofs
section
open Go.Conc (Leavers crowd)
noncomputable def jobOf (N:Nat→Prop) (C:Nat) (A:Kit1) (Ds:List Good1) (U:Nat×(Nat→Value)):Job:=
 { N,C,n:=A.ng,a:=A.gs,b:=A.ds,c:=A.hs,mv:=A.m,Rl:=fun i e w=>∃ D v,Ds[i]?=some D∧e=.returned v∧PlanAt w (zg D) v,U }
section
variable {N:Nat→Prop} {C:Nat} {A:Kit1} {Ds:List Good1} {U:Nat×(Nat→Value)} {w:World}
theorem Qt {b o l m:Nat} (h:N b):VRel (idW N) (.slice (some ⟨b,o,none⟩) l m) (.slice (some ⟨b,o,none⟩) l m):=.slice l m (.some ⟨⟨rfl,h⟩,rfl,rfl⟩)
theorem job_ok (hg:N A.gb) (hd:N A.db) (hh:N A.hb) (hm:N A.mb):JobOk (jobOf N C A Ds U):=by
 refine⟨.agg rfl fun i x y h1 h2=>?_,Qt hm,fun i v w h=>?_⟩
 ·rw[h1] at h2
  cases h2
  rcases i with _|_|_|i
  ·cases h1;exact Qt hg
  ·cases h1;exact Qt hd
  ·cases h1;exact Qt hh
  ·simp at h1
 ·obtain⟨D,v',_,e,s,m,rfl,_⟩:=h
  cases e
  exact⟨⟨s,_,m,_,_⟩,rfl⟩
theorem job_good (hch:ye Sw) (hlen:Ds.length=A.ng) (hkit:∀ i D,Ds[i]?=some D→KitAt w N A i D):Goods (jobOf N C A Ds U) w:=by
 intro i hi w1 hN hs ho
 have hi':i<Ds.length:=by rw[hlen];exact hi
 obtain⟨D,hD⟩:∃ D,Ds[i]?=some D:=⟨_,List.getElem?_eq_getElem hi'⟩
 refine Zy (fun e w' ⟨D,v,_,e1,_⟩=>⟨v,e1⟩) fun t _=>?_
 have hk:KitAt { maskN N w1 with tape:=t } (fun _=>True) A i D:=by
  refine (hkit i D hD).to (fun _ _=>trivial) fun b o v hb=>?_
  have cell:w.cell? ⟨b,o,none⟩=some v→w1.cell? ⟨b,o,none⟩=some v:=fun hc=>by
   unfold World.cell? at hc ⊢
   rw[hN b hb]
   exact hc
  refine⟨fun n e hc=>?_,fun sb so l m hsb e hc=>?_⟩
  ·subst e
   exact Ju (N:=N) (a:=⟨b,o,none⟩) hb (cell hc) (.int _ _)
  ·subst e
   exact Ju (N:=N) (a:=⟨b,o,none⟩) hb (cell hc) (Qt hsb)
 refine (hch _ A i D hk).mono fun e w2 ⟨v,e1,_,p⟩=>⟨D,v,hD,e1,p⟩
end
end
section
theorem zan {l:List Nat} {m i:Nat} {x:Value} (h:(rowOf l m)[i]?=some x):∃ n:Int,x=.int .i64 n:=by
 unfold rowOf at h
 rw[Array.getElem?_append] at h
 split at h
 ·simp only[List.getElem?_toArray,List.getElem?_map] at h
  obtain⟨y,_,rfl⟩:=Option.map_eq_some_iff.1 h
  exact⟨_,rfl⟩
 ·unfold Builtin.zeroCells at h
  rw[Array.getElem?_map] at h
  obtain⟨y,_,rfl⟩:=Option.map_eq_some_iff.1 h
  refine⟨0,?_⟩
  have:y % (Value.int IntKind.i64 0).cells.size=0:=by
   show y % 1=0
   omega
  rw[this]
  rfl
theorem row_same {B:Ren} {l:List Nat} {m:Nat} {c:Array Value} (h:VsRel B (rowOf l m) c):c=rowOf l m:=by
 refine Array.ext h.size fun i h1 h2=>?_
 have hr:=h.2 i _ _ (Array.getElem?_eq_getElem h2) (Array.getElem?_eq_getElem h1)
 obtain⟨n,hn⟩:=zan (Array.getElem?_eq_getElem h2)
 rw[hn] at hr ⊢
 generalize c[i]=x at hr
 cases hr
 rfl
section
variable {N:Nat→Prop} {C i:Nat} {A:Kit1} {Ds:List Good1} {U:Nat×(Nat→Value)} {w:World} {Pr Sd:Nat→Prop}
structure PlanIn (C i:Nat) (p:Plan) (cap R:Nat) (w:World):Prop where
 c0:w.cell? ⟨C,3*i,none⟩=some (if p.1=[] then .slice none 0 0 else .slice (some ⟨R,0,none⟩) p.1.length cap)
 c1:w.cell? ⟨C,3*i+1,none⟩=some (.int .i64 p.2.1)
 c2:w.cell? ⟨C,3*i+2,none⟩=some (.bool p.2.2)
 row:p.1≠[]→p.1.length≤cap∧cap≤maxLen∧∃ fr,w.heap[R]?=some (.cells (rowOf p.1 cap) 3 fr)∧MaskR (0,0) fr
theorem res_of (h:Res (jobOf N C A Ds U) i Pr Sd w):∃ D cap R,Ds[i]?=some D∧PlanIn C i (zg D) cap R w∧((zg D).1≠[]→Pr R):=by
 obtain⟨_,_,p,⟨Dr,v,wl,hRl,hv,hwl,hin⟩,c0,c1,c2⟩:=h
 obtain⟨D,v',hD,e,s,m,rfl,hload⟩:=hRl
 cases e
 unfold Pl.val at hv
 have hvv:∃ (cs:Array Value),cs=#[.slice p.s p.l p.m,.int .i64 p.cost,.bool p.no]∧VRel Dr (.agg #[.slice s (zg D).1.length m,.int .i64 (zg D).2.1,.bool (zg D).2.2]) (.agg cs):=⟨_,rfl,hv⟩
 obtain⟨cs,hcs,hv⟩:=hvv
 cases hv with
 | agg hsz hel =>
  subst hcs
  have e0:=hel 0 _ _ rfl rfl
  have e1:=hel 1 _ _ rfl rfl
  have e2:=hel 2 _ _ rfl rfl
  have f1:p.cost=((zg D).2.1:Int):=by
   generalize p.cost=x at e1
   generalize ((zg D).2.1:Int)=y at e1
   cases e1
   rfl
  have f2:p.no=(zg D).2.2:=by
   generalize p.no=x at e2
   generalize (zg D).2.2=y at e2
   cases e2
   rfl
  have f0:p.l=(zg D).1.length∧p.m=m∧(OR (AR Dr) s p.s∨((zg D).1.length=0∧s≠none)):=by
   generalize p.l=x at e0
   generalize p.m=y at e0
   generalize p.s=z at e0 ⊢
   generalize (zg D).1.length=n at e0 ⊢
   cases e0 with
   | slice l c h=>exact⟨rfl,rfl,.inl h⟩
   | empty=>exact⟨rfl,rfl,.inr ⟨rfl,by simp⟩⟩
  obtain⟨f3,f4,f5⟩:=f0
  replace f5:OR (AR Dr) s p.s:=by
   rcases f5 with f5|⟨q1,q2⟩
   ·exact f5
   ·rcases hload with ⟨_,l2,_⟩|⟨hne,_⟩
    ·exact absurd l2 q2
    ·exact absurd (List.length_eq_zero_iff.1 q1) hne
  have c0':w.cell? ⟨C,3*i,none⟩=some (.slice p.s (zg D).1.length m):=by
   have:=c0
   rw[f3,f4] at this
   exact this
  have c1':w.cell? ⟨C,3*i+1,none⟩=some (.int .i64 (zg D).2.1):=by
   have:=c1
   rw[f1] at this
   exact this
  have c2':w.cell? ⟨C,3*i+2,none⟩=some (.bool (zg D).2.2):=by
   have:=c2
   rw[f2] at this
   exact this
  rcases hload with ⟨l1,l2,l3⟩|⟨hne,b,l2,hle,hmax,hb⟩
  ·subst l2 l3
   generalize p.s=z at f5 c0'
   cases f5
   refine⟨D,0,0,hD,⟨?_,c1',c2',fun h=>absurd l1 h⟩,fun h=>absurd l1 h⟩
   rw[if_pos l1,c0',l1]
   rfl
  ·subst l2
   generalize p.s=z at f5 c0'
   cases f5 with
   | @some _ a' ha =>
    obtain⟨ab,ao,asp⟩:=a'
    obtain⟨r1,r2,r3⟩:=ha
    simp only at r1 r2 r3
    subst r2 r3
    obtain⟨o,o',h1,h2,ho⟩:=hwl.objs _ _ r1
    rw[hb] at h1
    cases h1
    cases ho with
    | cells t hm hx =>
     have ec:=row_same hx
     subst ec
     refine⟨D,m,ab,hD,⟨by rw[if_neg hne];exact c0',c1',c2',fun _=>⟨hle,hmax,_,h2,hm⟩⟩,fun _=>?_⟩
     rcases hin _ _ r1 with ⟨_,c,t',m',h5,h6⟩|hp
     ·exfalso
      rw[hb] at h5
      cases h5
      have hlen : 0<(zg D).1.length:=List.length_pos_iff.2 hne
      have:=(h6 0 (by rw[rowOf_size hle];omega)).2
      simp at this
     ·exact hp
end
end
end Go.Gal
