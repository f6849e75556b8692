/- sync.WaitGroup.Wait in company of workers that make memory: printed by gen_wg.py after the order of words of the kit's walk. sync.WaitGroup.Done as a worker's deferred call: it comes to .. -/
import Derived.Test.YtlgiofglcgbjgaaM12
namespace Go.Par
open Go Go.Conc Go.ConcN Go.RowKit Go.Conc.Lib Go.ConcR.Gen Go.ConcN.Gen
section
open Go.ConcR (KK wgBlock WgAt stA smA rd wr mk Payload)
variable {L:WgLink}
section
variable {Wg C:Nat} {V:Nat→Prop} {F:World→Prop} {Anch Out:(V:Nat→Prop)→Goroutine→World→Prop} {b₀:Frame} {a₀:Act} {ops₀:Array Oper} {i₀:Nat} {rest₀:List Nat} {k₀:List Item} {cs:List Frame} {mT:Nat}
set_option maxRecDepth 100000 in
set_option maxHeartbeats 8000000 in
theorem waitRound {P:Program} (H:WgLib P L) (hCW:C≠Wg) (hVW:¬ V Wg) (hF2:∀ w w',RM L.tWg Wg C V w w'→F w→F w')
  (hA:∀ (T:Array Value) w,T.size=84→T[0]?=some (.pointer (some ⟨Wg,0,none⟩))→F w→WgLive L.tWg Wg w→Anch V (G ((base L.wait).at ⟨T,[]⟩ [.code (L7 L),.inLoop (L7 L),.inBlock 0]) (b₀.at a₀ (.inRegion ops₀ (i₀::rest₀)::k₀)::cs)) w)
  (hT:∀ w,F w→WgLive L.tWg Wg w→GG P L.tWg Wg C V (fun g w=>g.status=.running∧Out V g w) mT (G (b₀.at (a₀.put ((ops₀[i₀]?).bind (·.dst)) (.tuple #[])) (.inRegion ops₀ rest₀::k₀)) cs) w)
  (T:Array Value) (w:World) (hT84:T.size=84) (t0:T[0]?=some (.pointer (some ⟨Wg,0,none⟩))) (hF:F w∧WgLive L.tWg Wg w) :
  ∃ m,GG P L.tWg Wg C V (AtW1 P L.tWg Wg C Anch Out V) m (G ((base L.wait).at ⟨T,[]⟩ [.code (L7 L),.inLoop (L7 L),.inBlock 0]) (b₀.at a₀ (.inRegion ops₀ (i₀::rest₀)::k₀)::cs)) w:=by
 lib_facts
 obtain⟨v0,v1,v2,v3,v4,v5,v6,v7,v8,v9,v10,v11,v12,v13,v14,v15,v16,v17,v18,v19,v20,v21,v22,v23,v24,v25,v26,v27,v28,v29,v30,v31,v32,v33,v34,v35,v36,v37,v38,v39,v40,v41,v42,v43,v44,v45,v46,v47,v48,v49,v50,v51,v52,v53,v54,v55,v56,v57,v58,v59,v60,v61,v62,v63,v64,v65,v66,v67,v68,v69,v70,v71,v72,v73,v74,v75,v76,v77,v78,v79,v80,v81,v82,v83,rfl⟩:=array84 T hT84
 simp only[List.getElem?_toArray,List.getElem?_cons_zero,Option.some.injEq] at t0
 subst t0
 refine⟨30,?_⟩
 simp only[L7,body_wait,waitFn,Option.getD_some]
 iterate 6 (refine Goes.step rfl (fun _ h₁=>?_);replace hF:=zn hF2 hF h₁;clear h₁;first|(rw[stepG_block];simp only[goes_go];refine⟨zi,?_⟩)|(rw[stepG_seq];simp only[goes_go];refine⟨zi,?_⟩)|(rw[stepG_region];simp only[goes_go,List.size_toArray,List.length_cons,List.length_nil,Nat.reduceAdd,Nat.zero_add,List.range,List.range.loop];refine⟨zi,?_⟩)|(refine goes_oper_k rfl rfl (by k_ne) (fun K hK=>?_);go_simp;refine hK _ _ ⟨zP fun e he=>?_,?_⟩;(have hm:=mem_listed he;simp[go_sem, *] at hm);clear hK K;try w_num))
 (refine Goes.step rfl (fun _ h₁=>?_);replace hF:=zn hF2 hF h₁;clear h₁;refine goes_call rfl rfl (by k_ne) rfl H.f_uLoad (nm_uLoad L) rfl ⟨zi,?_⟩;walk_nrmf uLoadFn)
 iterate 9 (refine Goes.step rfl (fun _ h₁=>?_);replace hF:=zn hF2 hF h₁;clear h₁;first|(rw[stepG_seq];simp only[goes_go];refine⟨zi,?_⟩)|(rw[stepG_region];simp only[goes_go,List.size_toArray,List.length_cons,List.length_nil,Nat.reduceAdd,Nat.zero_add,List.range,List.range.loop];refine⟨zi,?_⟩)|(rw[stepG_region_end];simp only[goes_go];refine⟨zi,?_⟩)|(refine goes_oper_k rfl rfl (by k_ne) (fun K hK=>?_);go_simp;refine hK _ _ ⟨zP fun e he=>?_,?_⟩;(have hm:=mem_listed he;simp[go_sem, *] at hm);clear hK K;try w_num))
 refine Goes.stop (fun w₁ h₁=>?_)
 replace hF:=zn hF2 hF h₁
 clear h₁
 refine⟨rfl,fun v hv hw=>?_⟩
 rcases Nat.eq_zero_or_pos v with rfl|hvp
 ·-- THE LOAD READS 0: THE JOIN IS SEEN
  replace hw:WgAt L.tWg Wg w₁ 0 0:=by simpa using hw
  refine⟨_,stepG_load_atomic (v:=0) rfl rfl (by k_ne) rfl H.f_loadU64 (x_loadU64_n L) (x_loadU64_b L) (x_loadU64_x L) .u64 (x_loadU64_f L) rfl hw.cellSt,fun _=>⟨50,?_⟩,fun h=>absurd rfl h⟩
  clear hw
  walk_nrm
  (refine Goes.step rfl (fun _ h₁=>?_);replace hF:=zn hF2 hF h₁;clear h₁;refine goes_oper_k rfl rfl (by k_ne) (fun K hK=>?_);go_simp;refine hK _ _ ⟨zP fun e he=>?_,?_⟩;(have hm:=mem_listed he;simp[go_sem, *] at hm);clear hK K;try w_num)
  (refine Goes.step rfl (fun _ h₁=>?_);replace hF:=zn hF2 hF h₁;clear h₁;rw[stepG_region_end];simp only[goes_go];refine⟨zi,?_⟩)
  (refine Goes.step rfl (fun _ h₁=>?_);replace hF:=zn hF2 hF h₁;clear h₁;rw[stepG_ret'];simp only[goes_go];refine⟨zi,?_⟩)
  (refine Goes.step rfl (fun _ h₁=>?_);replace hF:=zn hF2 hF h₁;clear h₁;refine goes_leave1 rfl rfl H.f_uLoad rfl ⟨zi,?_⟩;walk_nrm)
  iterate 27 (refine Goes.step rfl (fun _ h₁=>?_);replace hF:=zn hF2 hF h₁;clear h₁;first|(rw[stepG_region_end];simp only[goes_go];refine⟨zi,?_⟩)|(rw[stepG_seq];simp only[goes_go];refine⟨zi,?_⟩)|(rw[stepG_region];simp only[goes_go,List.size_toArray,List.length_cons,List.length_nil,Nat.reduceAdd,Nat.zero_add,List.range,List.range.loop];refine⟨zi,?_⟩)|(rw[stepG_cond (t:=true) rfl];simp only[goes_go,↓reduceIte];refine⟨zi,?_⟩)|(refine goes_oper_k rfl rfl (by k_ne) (fun K hK=>?_);go_simp;refine hK _ _ ⟨zP fun e he=>?_,?_⟩;(have hm:=mem_listed he;simp[go_sem, *] at hm);clear hK K;try w_num))
  refine Goes.stop (fun w₅ h₅=>?_)
  replace hF:=zn hF2 hF h₅
  clear h₅
  refine⟨rfl,_,stepG_mark0 .enable (by simp) rfl rfl (by k_ne) rfl H.f_enable (x_enable_n L) (x_enable_b L) (x_enable_x L) (x_enable_f L),12,?_⟩
  walk_nrm
  iterate 3 (refine Goes.step rfl (fun _ h₁=>?_);replace hF:=zn hF2 hF h₁;clear h₁;first|(rw[stepG_region_end];simp only[goes_go];refine⟨zi,?_⟩)|(rw[stepG_region];simp only[goes_go,List.size_toArray,List.length_cons,List.length_nil,Nat.reduceAdd,Nat.zero_add,List.range,List.range.loop];refine⟨zi,?_⟩)|(refine goes_oper_k rfl rfl (by k_ne) (fun K hK=>?_);go_simp;refine hK _ _ ⟨zP fun e he=>?_,?_⟩;(have hm:=mem_listed he;simp[go_sem, *] at hm);clear hK K;try w_num))
  (refine Goes.step rfl (fun _ h₁=>?_);replace hF:=zn hF2 hF h₁;clear h₁;refine goes_oper_k rfl rfl (by k_ne) (fun Kx hKx=>?_);have hcv:=run_convert_to_unsafe (P:=P) H.underlying_tWgP H.underlying_tUP H.room_tWg (WgLive.cell0 hF.2).choose_spec;have hce:=fun es=>events_convert_to_unsafe (P:=P) H.underlying_tWgP H.underlying_tUP H.room_tWg (WgLive.cell0 hF.2).choose_spec es;go_simp;refine hKx _ _ ⟨zP fun ex hex=>?_,?_⟩;(have hmx:=mem_listed hex;simp[go_sem,hce] at hmx);clear hKx Kx hcv hce)
  refine Goes.stop (fun w₆ h₆=>?_)
  replace hF:=zn hF2 hF h₆
  clear h₆
  refine⟨rfl,_,stepG_markAt .acquire (by simp) rfl rfl (by k_ne) rfl H.f_acquire (x_acquire_n L) (x_acquire_b L) (x_acquire_x L) (x_acquire_f L) (by simp[Act.eval,stA]),⟨mT+20,?_⟩⟩
  walk_nrm
  iterate 18 (refine Goes.step rfl (fun _ h₁=>?_);replace hF:=zn hF2 hF h₁;clear h₁;first|(rw[stepG_region_end];simp only[goes_go];refine⟨zi,?_⟩)|(rw[stepG_seq];simp only[goes_go];refine⟨zi,?_⟩)|(rw[stepG_region];simp only[goes_go,List.size_toArray,List.length_cons,List.length_nil,Nat.reduceAdd,Nat.zero_add,List.range,List.range.loop];refine⟨zi,?_⟩)|(rw[stepG_unwanted rfl rfl];simp only[goes_go];refine⟨zi,?_⟩;walk_nrm)|(rw[stepG_cond (t:=false) rfl];simp only[goes_go,Bool.false_eq_true,↓reduceIte];refine⟨zi,?_⟩)|(rw[stepG_skip];simp only[goes_go];refine⟨zi,?_⟩)|(refine goes_oper_k rfl rfl (by k_ne) (fun K hK=>?_);go_simp;refine hK _ _ ⟨zP fun e he=>?_,?_⟩;(have hm:=mem_listed he;simp[go_sem, *] at hm);clear hK K;try w_num))
  (refine Goes.step rfl (fun _ h₁=>?_);replace hF:=zn hF2 hF h₁;clear h₁;rw[stepG_ret'];simp only[goes_go];refine⟨zi,?_⟩)
  (refine Goes.step rfl (fun _ h₁=>?_);replace hF:=zn hF2 hF h₁;clear h₁;refine goes_leave0 rfl rfl H.f_wait rfl ⟨zi,?_⟩;walk_nrm)
  exact hT _ hF.1 hF.2
 ·-- THE LOAD READS v*2^32,v > 0
  obtain⟨S,hS⟩:∃ S:Int,(v:Int)*KK=S:=⟨_,rfl⟩
  have a1:S / 4294967296=(v:Int):=by rw[← hS];simp only[KK];omega
  have b1:bits .and .u64 S 2147483648=0:=by rw[← hS];have:=st_flag v 0 (by omega) (by omega);simpa[KK] using this
  have b2:bits .and .u64 S 2147483647=0:=by rw[← hS];have:=st_waiters v 0 (by omega) (by omega);simpa[KK] using this
  have c1:IntKind.i32.wrap (v:Int)=(v:Int):=by rw[IntKind.wrap_i32];omega
  have w1:IntKind.u64.wrap (S+1)=S+1:=by rw[IntKind.wrap_u64,← hS];simp only[KK];omega
  have q3:decide ((v:Int)<0)=false:=decide_eq_false (by omega)
  have q4:decide (0<(v:Int))=true:=decide_eq_true (by omega)
  have q5:((v:Int)==0)=false:=by simp;omega
  have q6:decide ((v:Int)=0)=false:=decide_eq_false (by omega)
  rw[hS] at hw
  refine⟨_,stepG_load_atomic (v:=S) rfl rfl (by k_ne) rfl H.f_loadU64 (x_loadU64_n L) (x_loadU64_b L) (x_loadU64_x L) .u64 (x_loadU64_f L) rfl hw.cellSt,fun h0=>absurd h0 (by omega),fun _=>⟨60,?_⟩⟩
  clear hw
  walk_nrm
  (refine Goes.step rfl (fun _ h₁=>?_);replace hF:=zn hF2 hF h₁;clear h₁;refine goes_oper_k rfl rfl (by k_ne) (fun K hK=>?_);go_simp;refine hK _ _ ⟨zP fun e he=>?_,?_⟩;(have hm:=mem_listed he;simp[go_sem, *] at hm);clear hK K;try w_num)
  (refine Goes.step rfl (fun _ h₁=>?_);replace hF:=zn hF2 hF h₁;clear h₁;rw[stepG_region_end];simp only[goes_go];refine⟨zi,?_⟩)
  (refine Goes.step rfl (fun _ h₁=>?_);replace hF:=zn hF2 hF h₁;clear h₁;rw[stepG_ret'];simp only[goes_go];refine⟨zi,?_⟩)
  (refine Goes.step rfl (fun _ h₁=>?_);replace hF:=zn hF2 hF h₁;clear h₁;refine goes_leave1 rfl rfl H.f_uLoad rfl ⟨zi,?_⟩;walk_nrm)
  iterate 22 (refine Goes.step rfl (fun _ h₁=>?_);replace hF:=zn hF2 hF h₁;clear h₁;first|(rw[stepG_region_end];simp only[goes_go];refine⟨zi,?_⟩)|(rw[stepG_seq];simp only[goes_go];refine⟨zi,?_⟩)|(rw[stepG_region];simp only[goes_go,List.size_toArray,List.length_cons,List.length_nil,Nat.reduceAdd,Nat.zero_add,List.range,List.range.loop];refine⟨zi,?_⟩)|(refine goes_oper_k rfl rfl (by k_ne) (fun K hK=>?_);go_simp;refine hK _ _ ⟨zP fun e he=>?_,?_⟩;(have hm:=mem_listed he;simp[go_sem, *] at hm);clear hK K;try w_num))
  (refine Goes.step rfl (fun _ h₁=>?_);replace hF:=zn hF2 hF h₁;clear h₁;rw[stepG_cond (t:=false) (by first|rfl|(simp[Act.eval];omega))];simp only[goes_go,Bool.false_eq_true,↓reduceIte];refine⟨zi,?_⟩)
  iterate 9 (refine Goes.step rfl (fun _ h₁=>?_);replace hF:=zn hF2 hF h₁;clear h₁;first|(rw[stepG_skip];simp only[goes_go];refine⟨zi,?_⟩)|(rw[stepG_seq];simp only[goes_go];refine⟨zi,?_⟩)|(rw[stepG_region];simp only[goes_go,List.size_toArray,List.length_cons,List.length_nil,Nat.reduceAdd,Nat.zero_add,List.range,List.range.loop];refine⟨zi,?_⟩)|(refine goes_oper_k rfl rfl (by k_ne) (fun K hK=>?_);go_simp;refine hK _ _ ⟨zP fun e he=>?_,?_⟩;(have hm:=mem_listed he;simp[go_sem, *] at hm);clear hK K;try w_num))
  (refine Goes.step rfl (fun _ h₁=>?_);replace hF:=zn hF2 hF h₁;clear h₁;refine goes_call rfl rfl (by k_ne) rfl H.f_uCas (nm_uCas L) rfl ⟨zi,?_⟩;walk_nrmf uCasFn)
  iterate 11 (refine Goes.step rfl (fun _ h₁=>?_);replace hF:=zn hF2 hF h₁;clear h₁;first|(rw[stepG_seq];simp only[goes_go];refine⟨zi,?_⟩)|(rw[stepG_region];simp only[goes_go,List.size_toArray,List.length_cons,List.length_nil,Nat.reduceAdd,Nat.zero_add,List.range,List.range.loop];refine⟨zi,?_⟩)|(rw[stepG_region_end];simp only[goes_go];refine⟨zi,?_⟩)|(refine goes_oper_k rfl rfl (by k_ne) (fun K hK=>?_);go_simp;refine hK _ _ ⟨zP fun e he=>?_,?_⟩;(have hm:=mem_listed he;simp[go_sem, *] at hm);clear hK K;try w_num))
  refine Goes.stop (fun w₂ h₂=>?_)
  replace hF:=zn hF2 hF h₂
  clear h₂
  refine⟨rfl,fun v' hv' hw=>⟨fun e=>?_,fun e=>?_⟩⟩
  ·-- THE CompareAndSwap HITS: REGISTERED
   subst e
   rw[hS] at hw ⊢
   refine⟨_,(stepG_cas_hit (v:=S) (n:=S+1) rfl rfl (by k_ne) rfl H.f_casU64 (x_casU64_n L) (x_casU64_b L) (x_casU64_x L) .u64 (x_casU64_f L) rfl rfl rfl hw.cellSt (hw.thaw 0)).trans (by rfl),70,?_⟩
   replace hF:F (w₂.setCell (stA Wg) (.int .u64 (S+1)))∧WgLive L.tWg Wg (w₂.setCell (stA Wg) (.int .u64 (S+1))):=⟨hF2 _ _ (rm_st hCW hVW hw _) hF.1,⟨_,_,hw.setSt _⟩⟩
   clear hw
   walk_nrm
   (refine Goes.step rfl (fun _ h₁=>?_);replace hF:=zn hF2 hF h₁;clear h₁;refine goes_oper_k rfl rfl (by k_ne) (fun K hK=>?_);go_simp;refine hK _ _ ⟨zP fun e he=>?_,?_⟩;(have hm:=mem_listed he;simp[go_sem, *] at hm);clear hK K;try w_num)
   (refine Goes.step rfl (fun _ h₁=>?_);replace hF:=zn hF2 hF h₁;clear h₁;rw[stepG_region_end];simp only[goes_go];refine⟨zi,?_⟩)
   (refine Goes.step rfl (fun _ h₁=>?_);replace hF:=zn hF2 hF h₁;clear h₁;rw[stepG_ret'];simp only[goes_go];refine⟨zi,?_⟩)
   (refine Goes.step rfl (fun _ h₁=>?_);replace hF:=zn hF2 hF h₁;clear h₁;refine goes_leave1 rfl rfl H.f_uCas rfl ⟨zi,?_⟩;walk_nrm)
   iterate 15 (refine Goes.step rfl (fun _ h₁=>?_);replace hF:=zn hF2 hF h₁;clear h₁;first|(rw[stepG_region_end];simp only[goes_go];refine⟨zi,?_⟩)|(rw[stepG_cond (t:=true) rfl];simp only[goes_go,↓reduceIte];refine⟨zi,?_⟩)|(rw[stepG_seq];simp only[goes_go];refine⟨zi,?_⟩)|(rw[stepG_region];simp only[goes_go,List.size_toArray,List.length_cons,List.length_nil,Nat.reduceAdd,Nat.zero_add,List.range,List.range.loop];refine⟨zi,?_⟩)|(refine goes_oper_k rfl rfl (by k_ne) (fun K hK=>?_);go_simp;refine hK _ _ ⟨zP fun e he=>?_,?_⟩;(have hm:=mem_listed he;simp[go_sem, *] at hm);clear hK K;try w_num))
   (refine Goes.step rfl (fun _ h₁=>?_);replace hF:=zn hF2 hF h₁;clear h₁;refine goes_oper_k rfl rfl (by k_ne) (fun Kx hKx=>?_);have hcv:=run_convert_to_unsafe (P:=P) H.underlying_tPU32 H.underlying_tUP H.room_tU32 (WgLive.cell1 hF.2).choose_spec;have hce:=fun es=>events_convert_to_unsafe (P:=P) H.underlying_tPU32 H.underlying_tUP H.room_tU32 (WgLive.cell1 hF.2).choose_spec es;go_simp;refine hKx _ _ ⟨zP fun ex hex=>?_,?_⟩;(have hmx:=mem_listed hex;simp[go_sem,hce] at hmx);clear hKx Kx hcv hce)
   (refine Goes.step rfl (fun _ h₁=>?_);replace hF:=zn hF2 hF h₁;clear h₁;rw[stepG_markAt .write (by simp) rfl rfl (by k_ne) rfl H.f_raceWrite (x_raceWrite_n L) (x_raceWrite_b L) (x_raceWrite_x L) (x_raceWrite_f L) (ad:=⟨_,1,none⟩) (by simp[Act.eval]<;>rfl)];simp only[goes_go];refine⟨dm_write rfl,?_⟩)
   iterate 23 (refine Goes.step rfl (fun _ h₁=>?_);replace hF:=zn hF2 hF h₁;clear h₁;first|(rw[stepG_region_end];simp only[goes_go];refine⟨zi,?_⟩)|(rw[stepG_seq];simp only[goes_go];refine⟨zi,?_⟩)|(rw[stepG_region];simp only[goes_go,List.size_toArray,List.length_cons,List.length_nil,Nat.reduceAdd,Nat.zero_add,List.range,List.range.loop];refine⟨zi,?_⟩)|(rw[stepG_unwanted rfl rfl];simp only[goes_go];refine⟨zi,?_⟩;walk_nrm)|(rw[stepG_cond (t:=false) rfl];simp only[goes_go,Bool.false_eq_true,↓reduceIte];refine⟨zi,?_⟩)|(rw[stepG_skip];simp only[goes_go];refine⟨zi,?_⟩)|(refine goes_oper_k rfl rfl (by k_ne) (fun K hK=>?_);go_simp;refine hK _ _ ⟨zP fun e he=>?_,?_⟩;(have hm:=mem_listed he;simp[go_sem, *] at hm);clear hK K;try w_num))
   refine Goes.stop (fun w₃ h₃=>?_)
   replace hF:=zn hF2 hF h₃
   clear h₃
   refine⟨rfl,rfl,fun ⟨st,hw⟩=>stepG_semacquire_wait rfl rfl rfl H.f_semacquire (x_semacquire_n L) (x_semacquire_b L) (x_semacquire_x L) (x_semacquire_f L) (by simp[Act.eval,smA]) hw.cellSm,fun hf=>?_⟩
   refine⟨_,(stepG_semacquire (n:=1) rfl rfl (by k_ne) rfl H.f_semacquire (x_semacquire_n L) (x_semacquire_b L) (x_semacquire_x L) (x_semacquire_f L) (by simp[Act.eval,smA]) hf.cellSm (by k_ne) (hf.thaw 1)).trans (by rfl),30,?_⟩
   replace hF:F (w₃.setCell (smA Wg) (.int .u32 0))∧WgLive L.tWg Wg (w₃.setCell (smA Wg) (.int .u32 0)):=⟨hF2 _ _ (rm_sm hCW hVW hf _) hF.1,⟨_,_,hf.setSm 0⟩⟩
   clear hf
   walk_nrm
   iterate 6 (refine Goes.step rfl (fun _ h₁=>?_);replace hF:=zn hF2 hF h₁;clear h₁;first|(rw[stepG_region_end];simp only[goes_go];refine⟨zi,?_⟩)|(rw[stepG_seq];simp only[goes_go];refine⟨zi,?_⟩)|(rw[stepG_region];simp only[goes_go,List.size_toArray,List.length_cons,List.length_nil,Nat.reduceAdd,Nat.zero_add,List.range,List.range.loop];refine⟨zi,?_⟩)|(refine goes_oper_k rfl rfl (by k_ne) (fun K hK=>?_);go_simp;refine hK _ _ ⟨zP fun e he=>?_,?_⟩;(have hm:=mem_listed he;simp[go_sem, *] at hm);clear hK K;try w_num))
   (refine Goes.step rfl (fun _ h₁=>?_);replace hF:=zn hF2 hF h₁;clear h₁;refine goes_call rfl rfl (by k_ne) rfl H.f_uLoad (nm_uLoad L) rfl ⟨zi,?_⟩;walk_nrmf uLoadFn)
   iterate 9 (refine Goes.step rfl (fun _ h₁=>?_);replace hF:=zn hF2 hF h₁;clear h₁;first|(rw[stepG_seq];simp only[goes_go];refine⟨zi,?_⟩)|(rw[stepG_region];simp only[goes_go,List.size_toArray,List.length_cons,List.length_nil,Nat.reduceAdd,Nat.zero_add,List.range,List.range.loop];refine⟨zi,?_⟩)|(rw[stepG_region_end];simp only[goes_go];refine⟨zi,?_⟩)|(refine goes_oper_k rfl rfl (by k_ne) (fun K hK=>?_);go_simp;refine hK _ _ ⟨zP fun e he=>?_,?_⟩;(have hm:=mem_listed he;simp[go_sem, *] at hm);clear hK K;try w_num))
   refine Goes.stop (fun w₄ h₄=>?_)
   replace hF:=zn hF2 hF h₄
   clear h₄
   refine⟨rfl,fun hw=>⟨_,stepG_load_atomic (v:=0) rfl rfl (by k_ne) rfl H.f_loadU64 (x_loadU64_n L) (x_loadU64_b L) (x_loadU64_x L) .u64 (x_loadU64_f L) rfl hw.cellSt,30,?_⟩⟩
   clear hw
   walk_nrm
   (refine Goes.step rfl (fun _ h₁=>?_);replace hF:=zn hF2 hF h₁;clear h₁;refine goes_oper_k rfl rfl (by k_ne) (fun K hK=>?_);go_simp;refine hK _ _ ⟨zP fun e he=>?_,?_⟩;(have hm:=mem_listed he;simp[go_sem, *] at hm);clear hK K;try w_num)
   (refine Goes.step rfl (fun _ h₁=>?_);replace hF:=zn hF2 hF h₁;clear h₁;rw[stepG_region_end];simp only[goes_go];refine⟨zi,?_⟩)
   (refine Goes.step rfl (fun _ h₁=>?_);replace hF:=zn hF2 hF h₁;clear h₁;rw[stepG_ret'];simp only[goes_go];refine⟨zi,?_⟩)
   (refine Goes.step rfl (fun _ h₁=>?_);replace hF:=zn hF2 hF h₁;clear h₁;refine goes_leave1 rfl rfl H.f_uLoad rfl ⟨zi,?_⟩;walk_nrm)
   iterate 7 (refine Goes.step rfl (fun _ h₁=>?_);replace hF:=zn hF2 hF h₁;clear h₁;first|(rw[stepG_region_end];simp only[goes_go];refine⟨zi,?_⟩)|(rw[stepG_seq];simp only[goes_go];refine⟨zi,?_⟩)|(rw[stepG_cond (t:=true) rfl];simp only[goes_go,↓reduceIte];refine⟨zi,?_⟩)|(rw[stepG_region];simp only[goes_go,List.size_toArray,List.length_cons,List.length_nil,Nat.zero_add,List.range,List.range.loop];refine⟨zi,?_⟩)|(refine goes_oper_k rfl rfl (by k_ne) (fun K hK=>?_);go_simp;refine hK _ _ ⟨zP fun e he=>?_,?_⟩;(have hm:=mem_listed he;simp[go_sem, *] at hm);clear hK K;try w_num))
   refine Goes.stop (fun w₅ h₅=>?_)
   replace hF:=zn hF2 hF h₅
   clear h₅
   refine⟨rfl,_,stepG_mark0 .enable (by simp) rfl rfl (by k_ne) rfl H.f_enable (x_enable_n L) (x_enable_b L) (x_enable_x L) (x_enable_f L),12,?_⟩
   walk_nrm
   iterate 3 (refine Goes.step rfl (fun _ h₁=>?_);replace hF:=zn hF2 hF h₁;clear h₁;first|(rw[stepG_region_end];simp only[goes_go];refine⟨zi,?_⟩)|(rw[stepG_region];simp only[goes_go,List.size_toArray,List.length_cons,List.length_nil,Nat.reduceAdd,Nat.zero_add,List.range,List.range.loop];refine⟨zi,?_⟩)|(refine goes_oper_k rfl rfl (by k_ne) (fun K hK=>?_);go_simp;refine hK _ _ ⟨zP fun e he=>?_,?_⟩;(have hm:=mem_listed he;simp[go_sem, *] at hm);clear hK K;try w_num))
   (refine Goes.step rfl (fun _ h₁=>?_);replace hF:=zn hF2 hF h₁;clear h₁;refine goes_oper_k rfl rfl (by k_ne) (fun Kx hKx=>?_);have hcv:=run_convert_to_unsafe (P:=P) H.underlying_tWgP H.underlying_tUP H.room_tWg (WgLive.cell0 hF.2).choose_spec;have hce:=fun es=>events_convert_to_unsafe (P:=P) H.underlying_tWgP H.underlying_tUP H.room_tWg (WgLive.cell0 hF.2).choose_spec es;go_simp;refine hKx _ _ ⟨zP fun ex hex=>?_,?_⟩;(have hmx:=mem_listed hex;simp[go_sem,hce] at hmx);clear hKx Kx hcv hce)
   refine Goes.stop (fun w₆ h₆=>?_)
   replace hF:=zn hF2 hF h₆
   clear h₆
   refine⟨rfl,_,stepG_markAt .acquire (by simp) rfl rfl (by k_ne) rfl H.f_acquire (x_acquire_n L) (x_acquire_b L) (x_acquire_x L) (x_acquire_f L) (by simp[Act.eval,stA]),⟨mT+10,?_⟩⟩
   walk_nrm
   iterate 8 (refine Goes.step rfl (fun _ h₁=>?_);replace hF:=zn hF2 hF h₁;clear h₁;first|(rw[stepG_region_end];simp only[goes_go];refine⟨zi,?_⟩)|(rw[stepG_seq];simp only[goes_go];refine⟨zi,?_⟩)|(rw[stepG_region];simp only[goes_go,List.size_toArray,List.length_cons,List.length_nil,Nat.zero_add,List.range,List.range.loop];refine⟨zi,?_⟩)|(rw[stepG_cond (t:=false) rfl];simp only[goes_go,Bool.false_eq_true,↓reduceIte];refine⟨zi,?_⟩)|(rw[stepG_skip];simp only[goes_go];refine⟨zi,?_⟩)|(refine goes_oper_k rfl rfl (by k_ne) (fun K hK=>?_);go_simp;refine hK _ _ ⟨zP fun e he=>?_,?_⟩;(have hm:=mem_listed he;simp[go_sem, *] at hm);clear hK K;try w_num))
   (refine Goes.step rfl (fun _ h₁=>?_);replace hF:=zn hF2 hF h₁;clear h₁;rw[stepG_ret'];simp only[goes_go];refine⟨zi,?_⟩)
   (refine Goes.step rfl (fun _ h₁=>?_);replace hF:=zn hF2 hF h₁;clear h₁;refine goes_leave0 rfl rfl H.f_wait rfl ⟨zi,?_⟩;walk_nrm)
   exact hT _ hF.1 hF.2
  ·-- IT MISSES: BACK TO THE LOOP's HEAD
   refine⟨_,stepG_cas_miss (v:=(v':Int)*KK) (old:=S) (n:=S+1) rfl rfl (by k_ne) rfl H.f_casU64 (x_casU64_n L) (x_casU64_b L) (x_casU64_x L) .u64 (x_casU64_f L) rfl rfl rfl hw.cellSt (hw.thaw 0) (by rw[← hS];simp only[KK];omega),20,?_⟩
   clear hw
   walk_nrm
   (refine Goes.step rfl (fun _ h₁=>?_);replace hF:=zn hF2 hF h₁;clear h₁;refine goes_oper_k rfl rfl (by k_ne) (fun K hK=>?_);go_simp;refine hK _ _ ⟨zP fun e he=>?_,?_⟩;(have hm:=mem_listed he;simp[go_sem, *] at hm);clear hK K;try w_num)
   (refine Goes.step rfl (fun _ h₁=>?_);replace hF:=zn hF2 hF h₁;clear h₁;rw[stepG_region_end];simp only[goes_go];refine⟨zi,?_⟩)
   (refine Goes.step rfl (fun _ h₁=>?_);replace hF:=zn hF2 hF h₁;clear h₁;rw[stepG_ret'];simp only[goes_go];refine⟨zi,?_⟩)
   (refine Goes.step rfl (fun _ h₁=>?_);replace hF:=zn hF2 hF h₁;clear h₁;refine goes_leave1 rfl rfl H.f_uCas rfl ⟨zi,?_⟩;walk_nrm)
   iterate 5 (refine Goes.step rfl (fun _ h₁=>?_);replace hF:=zn hF2 hF h₁;clear h₁;first|(rw[stepG_region_end];simp only[goes_go];refine⟨zi,?_⟩)|(rw[stepG_cond (t:=false) rfl];simp only[goes_go,Bool.false_eq_true,↓reduceIte];refine⟨zi,?_⟩)|(rw[stepG_skip];simp only[goes_go];refine⟨zi,?_⟩)|(rw[stepG_inBlock];simp only[goes_go];refine⟨zi,?_⟩)|(rw[stepG_inLoop];simp only[goes_go];refine⟨zi,?_⟩))
   refine Goes.stop (fun w₃ h₃=>?_)
   replace hF:=zn hF2 hF h₃
   exact hA _ _ (by simp) (by simp) hF.1 hF.2
set_option maxRecDepth 100000 in
set_option maxHeartbeats 8000000 in
theorem waitStart {P:Program} (H:WgLib P L) (hF2:∀ w w',RM L.tWg Wg C V w w'→F w→F w')
  (hA:∀ (T:Array Value) w,T.size=84→T[0]?=some (.pointer (some ⟨Wg,0,none⟩))→F w→WgLive L.tWg Wg w→Anch V (G ((base L.wait).at ⟨T,[]⟩ [.code (L7 L),.inLoop (L7 L),.inBlock 0]) (b₀.at a₀ (.inRegion ops₀ (i₀::rest₀)::k₀)::cs)) w)
  (w:World) (hF:F w∧WgLive L.tWg Wg w) :
  Goes P true (RM L.tWg Wg C V) Go.ConcR.DC0 (AtWd P L.tWg Wg C Anch V (fun _=>False)) 3
   (G ((base L.wait).at ⟨#[.pointer (some ⟨Wg,0,none⟩),undef,undef,undef,undef,undef,undef,undef,undef,undef,undef,undef,undef,undef,undef,undef,undef,undef,undef,undef,undef,undef,undef,undef,undef,undef,undef,undef,undef,undef,undef,undef,undef,undef,undef,undef,undef,undef,undef,undef,undef,undef,undef,undef,undef,undef,undef,undef,undef,undef,undef,undef,undef,undef,undef,undef,undef,undef,undef,undef,undef,undef,undef,undef,undef,undef,undef,undef,undef,undef,undef,undef,undef,undef,undef,undef,undef,undef,undef,undef,undef,undef,undef,undef],[]⟩ [.code (body_wait L)]) (b₀.at a₀ (.inRegion ops₀ (i₀::rest₀)::k₀)::cs)) w:=by
 lib_facts
 simp only[body_wait,waitFn,Option.getD_some]
 iterate 3 (refine Goes.step rfl (fun _ h₁=>?_);replace hF:=zn hF2 hF h₁;clear h₁;first|(rw[stepG_seq];simp only[goes_go];refine⟨Qg,?_⟩)|(rw[stepG_cond (t:=true) rfl];simp only[goes_go,↓reduceIte];refine⟨Qg,?_⟩)|(rw[stepG_region];simp only[goes_go,List.size_toArray,List.length_cons,List.length_nil,Nat.zero_add,List.range,List.range.loop];refine⟨Qg,?_⟩))
 refine Goes.stop (fun w₁ h₁=>?_)
 replace hF:=zn hF2 hF h₁
 clear h₁
 refine⟨rfl,_,stepG_mark0 .disable (by simp) rfl rfl (by k_ne) rfl H.f_disable (x_disable_n L) (x_disable_b L) (x_disable_x L) (x_disable_f L),3,?_⟩
 walk_nrm
 iterate 3 (refine Goes.step rfl (fun _ h₁=>?_);replace hF:=zn hF2 hF h₁;clear h₁;first|(rw[stepG_region_end];simp only[goes_go];refine⟨zi,?_⟩)|(rw[stepG_block];simp only[goes_go];refine⟨zi,?_⟩)|(rw[stepG_loop];simp only[goes_go];refine⟨zi,?_⟩))
 exact Goes.stop (fun w₂ h₂=>hA _ _ (by simp) (by simp) (zn hF2 hF h₂).1 (zn hF2 hF h₂).2)
end
end
section
open Go.ConcR (KK wgBlock WgAt stA smA rd wr mk Payload DC0)
section
variable {P:Program} {R R':World→World→Prop} {g:Goroutine} {w:World}
def AtDis (P:Program) (g:Goroutine) (w:World):Prop:=∃ g',stepG P false g w=.go g' w #[mk .disable]
def AtRls (P:Program) (Wg:Nat) (R:World→World→Prop) (g:Goroutine) (w:World):Prop:=
 ∃ g',stepG P false g w=.go g' w #[mk (.releaseMerge (stA Wg))]∧∃ m,Goes P false R DC0 (AtDis P) m g' w
variable [Payload] {ty:TypeId} {Wg C nC Low k:Nat} {Own Rd:Nat→Loc→Prop} {val:Value}
theorem zaF (hR:∀ w,R w w) (hS:∀ w w1,R w w1→R' w w1):∀ (m n:Nat) (g:Goroutine) (w:World),Goes P false R' (DWs Wg Own Rd C nC k) (AtR0 P ty Wg C nC Low k val) n g w→Goes P false R DC0 (AtDis P) m g w→False
 | m,n,g,w,h,hd=>by
  have stop:∀ w1,R' w w1→R w w1→(∀ w1,R' w w1→AtR0 P ty Wg C nC Low k val g w1)→∀ g' es,stepG P false g w1=.go g' w1 es→es=#[mk .disable]∨es=#[]→False:=by
   intro w1 r _ hs g' es e hes
   obtain⟨_,_,g2,e2,_⟩:=hs w1 r
   rw[e] at e2
   cases e2
   rcases hes with h|h<;>simp[mk] at h
  have hdis:AtDis P g w→False:=by
   rintro⟨g',e⟩
   cases n with
   | zero=>exact stop w (hS _ _ (hR w)) (hR w) h _ _ e (.inl rfl)
   | succ n =>
    rcases h with h|⟨_,h⟩
    ·exact stop w (hS _ _ (hR w)) (hR w) h _ _ e (.inl rfl)
    ·have:=h w (hS _ _ (hR w))
     rw[e] at this
     exact (this.1.2 (mk .disable) (by simp)).2.1 rfl
  cases m with
  | zero=>exact hdis (hd w (hR w))
  | succ m =>
   rcases hd with hd|⟨_,hd⟩
   ·exact hdis (hd w (hR w))
   ·have h1:=hd w (hR w)
    cases e:stepG P false g w with
    | go g' w' es =>
     rw[e] at h1
     obtain⟨⟨ew,ee⟩,h2⟩:=h1
     rw[ew,ee] at e
     rw[ew] at h2
     cases n with
     | zero=>exact stop w (hS _ _ (hR w)) (hR w) h _ _ e (.inr rfl)
     | succ n =>
      rcases h with h|⟨_,h⟩
      ·exact stop w (hS _ _ (hR w)) (hR w) h _ _ e (.inr rfl)
      ·have:=h w (hS _ _ (hR w))
       rw[e] at this
       exact zaF hR hS m n _ _ this.2 h2
    | _=>rw[e] at h1;exact h1.elim
theorem zcd (hR:∀ w,R w w) (hS:∀ w w1,R w w1→R' w w1):∀ (m n:Nat) (g:Goroutine) (w:World),Goes P false R' (DWs Wg Own Rd C nC k) (AtR0 P ty Wg C nC Low k val) n g w→Goes P false R DC0 (AtRls P Wg R) m g w →
  Goes P false R DC0 (AtR0 P ty Wg C nC Low k val) m g w
 | m,n,g,w,h,hd=>by
  have hrel:∀ w1,R w w1→AtRls P Wg R g w1→AtR0 P ty Wg C nC Low k val g w1:=by
   rintro w1 r ⟨g',e,m',hm⟩
   cases n with
   | zero=>exact h _ (hS _ _ r)
   | succ n =>
    rcases h with h|⟨_,h⟩
    ·exact h _ (hS _ _ r)
    ·have:=h w1 (hS _ _ r)
     rw[e] at this
     exact (zaF hR hS m' n _ _ this.2 hm).elim
  cases m with
  | zero=>exact fun w1 r=>hrel w1 r (hd w1 r)
  | succ m =>
   rcases hd with hd|⟨hr,hd⟩
   ·exact .inl fun w1 r=>hrel w1 r (hd w1 r)
   ·cases n with
    | zero=>exact .inl fun w1 r=>h _ (hS _ _ r)
    | succ n =>
     rcases h with h|⟨_,h⟩
     ·exact .inl fun w1 r=>h _ (hS _ _ r)
     ·refine .inr ⟨hr,fun w1 r=>?_⟩
      have h1:=hd w1 r
      have h2:=h w1 (hS _ _ r)
      cases e:stepG P false g w1 with
      | go g' w' es =>
       rw[e] at h1 h2
       exact⟨h1.1,zcd hR hS m n _ _ h2.2 h1.2⟩
      | _=>rw[e] at h1;exact h1.elim
end
section
variable {L:WgLink} {R:World→World→Prop} {Wg:Nat}
set_option maxRecDepth 100000 in
set_option maxHeartbeats 8000000 in
theorem done_start {P:Program} (H:WgLib P L) {c:Frame} {cs:List Frame} (rl:∀ {w w1},WgLive L.tWg Wg w→R w w1→WgLive L.tWg Wg w1) (w:World) (hF:WgLive L.tWg Wg w) :
  Goes P false R DC0 (AtRls P Wg R) 23 (G ((baseD L.done).at ⟨#[.pointer (some ⟨Wg,0,none⟩),undef,undef,undef],[]⟩ [.code (body_done L)]) (c::cs)) w:=by
 lib_facts
 simp only[body_done,doneFn,Option.getD_some]
 u_reg rl hF
 u_op rl hF
 u_in rl hF
 refine goes_call rfl rfl (by k_ne) rfl H.f_add (nm_add L) rfl ⟨by u_nil,?_⟩
 walk_nrmf addFn
 u_c stepG_seq rl hF
 u_cond true rl hF
 u_c stepG_seq rl hF
 u_c stepG_seq rl hF
 u_reg rl hF
 u_op rl hF
 u_op rl hF
 u_c stepG_region_end rl hF
 u_cond true rl hF
 u_reg rl hF
 u_op rl hF
 u_conv H.underlying_tWgP H.room_tWg (WgLive.cell0 hF).choose_spec rl hF
 refine Goes.stop (fun w₁ h₁=>?_)
 replace hF:=rl hF h₁
 clear h₁
 refine⟨_,stepG_markAt .releaseMerge (by simp) rfl rfl (by k_ne) rfl H.f_relMerge (x_relMerge_n L) (x_relMerge_b L) (x_relMerge_x L) (x_relMerge_f L) (by simp[Act.eval,stA]),10,?_⟩
 walk_nrm
 u_c stepG_region_end rl hF
 u_c stepG_seq rl hF
 u_reg rl hF
 refine Goes.stop (fun w₁ h₁=>?_)
 exact⟨_,stepG_mark0 .disable (by simp) rfl rfl (by k_ne) rfl H.f_disable (x_disable_n L) (x_disable_b L) (x_disable_x L) (x_disable_f L)⟩
end
end
end Go.Par
