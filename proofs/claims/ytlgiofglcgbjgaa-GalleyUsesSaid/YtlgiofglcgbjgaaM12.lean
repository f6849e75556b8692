/- sync.WaitGroup.Add(1) in company of workers that make memory: printed by gen_wg.py after the order of words of the kit's walk. -/
import Derived.Test.YtlgiofglcgbjgaaM11
import Derived.Conc.WgGenN3
namespace Go.Par
open Go Go.Conc Go.ConcN Go.RowKit Go.Conc.Lib Go.ConcR.Gen Go.ConcN.Gen
open Go.ConcR (KK wgBlock WgAt stA smA rd wr mk Payload)
variable {L:WgLink}
section
variable {ty:TypeId} {Wg C:Nat} {V:Nat→Prop} {w w':World} {es:Array Event}
theorem zi:DM Wg w w #[]:=⟨rfl,fun e he=>by simp at he⟩
theorem Qg:Go.ConcR.DC0 w w #[]:=⟨rfl,rfl⟩
theorem dp_none (h:∀ e∈es,False):Go.ConcR.DC0 w w es:=⟨rfl,Array.eq_empty_iff_forall_not_mem.2 h⟩
theorem zP (h:∀ e∈es,False):DM Wg w w es:=⟨rfl,fun e he=>(h e he).elim⟩
theorem dm_read {a:Addr} (h:a.block=Wg):DM Wg w w #[⟨.mark (.read a),false,true⟩]:=⟨rfl,fun e he=>⟨a,h,.inl (by simpa using he)⟩⟩
theorem dm_write {a:Addr} (h:a.block=Wg):DM Wg w w #[⟨.mark (.write a),false,true⟩]:=⟨rfl,fun e he=>⟨a,h,.inr (by simpa using he)⟩⟩
theorem zn {F:World→Prop} (hF2:∀ w w',RM ty Wg C V w w'→F w→F w') {w w₁:World} (h:F w∧WgLive ty Wg w) (r:RM ty Wg C V w w₁):F w₁∧WgLive ty Wg w₁:=⟨hF2 _ _ r h.1,r.live h.2⟩
theorem zda (hCW:C≠Wg) (hVW:¬ V Wg) (h:Go.Conc.Aside Wg w w') (hl:WgLive ty Wg w'):RM ty Wg C V w w':=
 ⟨by rw[h.size];exact Nat.le_refl _,⟨h.os,h.output,h.tape⟩,fun b hb=>h.block b fun e=>hVW (e▸hb),fun cs t m hx=>⟨cs,(h.block C hCW).trans hx,rfl,fun _ hf=>hf.elim⟩,fun _=>hl⟩
theorem rm_st (hCW:C≠Wg) (hVW:¬ V Wg) {st sm:Int} (h:WgAt ty Wg w st sm) (v:Int):RM ty Wg C V w (w.setCell (stA Wg) (.int .u64 v)):=
 zda hCW hVW (aside_setCell w (stA Wg) _) ⟨_,_,h.setSt v⟩
theorem rm_sm (hCW:C≠Wg) (hVW:¬ V Wg) {st sm:Int} (h:WgAt ty Wg w st sm) (v:Int):RM ty Wg C V w (w.setCell (smA Wg) (.int .u32 v)):=
 zda hCW hVW (aside_setCell w (smA Wg) _) ⟨_,_,h.setSm v⟩
end
section
variable {Wg C:Nat} {V:Nat→Prop} {F:World→Prop} {b₀:Frame} {a₀:Act} {ops₀:Array Oper} {i₀:Nat} {rest₀:List Nat} {k₀:List Item} {cs:List Frame} {mT:Nat}
set_option maxRecDepth 100000 in
set_option maxHeartbeats 8000000 in
theorem addPos {P:Program} {Born:Nat→(V:Nat→Prop)→Goroutine→World→Prop} {j:Nat} {Next:(V M:Nat→Prop)→Goroutine→World→Prop} (H:WgLib P L) (hCW:C≠Wg) (hVW:¬ V Wg) (hF2:∀ w w',RM L.tWg Wg C V w w'→F w→F w')
  (hT:∀ w,F w→WgLive L.tWg Wg w→GG P L.tWg Wg C V (AtGo P Born j Next V) mT (G (b₀.at (a₀.put ((ops₀[i₀]?).bind (·.dst)) (.tuple #[])) (.inRegion ops₀ rest₀::k₀)) cs) w)
  (w:World) (hF:F w∧WgLive L.tWg Wg w) :
  Goes P true (RM L.tWg Wg C V) Go.ConcR.DC0 (AtKd P L.tWg Wg C Born j Next V (fun _=>False)) 12
   (G ((base L.add).at ⟨#[.pointer (some ⟨Wg,0,none⟩),.int .i64 1,undef,undef,undef,undef,undef,undef,undef,undef,undef,undef,undef,undef,undef,undef,undef,undef,undef,undef,undef,undef,undef,undef,undef,undef,undef,undef,undef,undef,undef,undef,undef,undef,undef,undef,undef,undef,undef,undef,undef,undef,undef,undef,undef,undef,undef,undef,undef,undef,undef,undef,undef,undef,undef,undef,undef,undef,undef,undef,undef,undef,undef,undef,undef,undef,undef,undef,undef,undef,undef,undef,undef,undef,undef,undef,undef,undef,undef,undef,undef,undef,undef,undef,undef,undef,undef,undef,undef,undef,undef,undef,undef,undef,undef,undef,undef,undef,undef,undef,undef,undef,undef,undef,undef,undef,undef,undef,undef,undef,undef,undef,undef,undef,undef,undef,undef],[]⟩ [.code (body_add L)]) (b₀.at a₀ (.inRegion ops₀ (i₀::rest₀)::k₀)::cs)) w:=by
 lib_facts
 simp only[body_add,addFn,Option.getD_some]
 iterate 12 (refine Goes.step rfl (fun _ h₁=>?_);replace hF:=zn hF2 hF h₁;clear h₁;first|(rw[stepG_seq];simp only[goes_go];refine⟨Qg,?_⟩)|(rw[stepG_cond (t:=true) rfl];simp only[goes_go,↓reduceIte];refine⟨Qg,?_⟩)|(rw[stepG_region];simp only[goes_go,List.size_toArray,List.length_cons,List.length_nil,Nat.reduceAdd,Nat.zero_add,List.range,List.range.loop];refine⟨Qg,?_⟩)|(rw[stepG_region_end];simp only[goes_go];refine⟨Qg,?_⟩)|(rw[stepG_cond (t:=false) rfl];simp only[goes_go,Bool.false_eq_true,↓reduceIte];refine⟨Qg,?_⟩)|(rw[stepG_skip];simp only[goes_go];refine⟨Qg,?_⟩)|(refine goes_oper_k rfl rfl (by k_ne) (fun K hK=>?_);go_simp;refine hK _ _ ⟨dp_none fun e he=>?_,?_⟩;(have hm:=mem_listed he;simp[go_sem, *] at hm);clear hK K;try w_num))
 refine Goes.stop (fun w₁ h₁=>?_)
 replace hF:=zn hF2 hF h₁
 clear h₁
 refine⟨rfl,_,stepG_mark0 .disable (by simp) rfl rfl (by k_ne) rfl H.f_disable (x_disable_n L) (x_disable_b L) (x_disable_x L) (x_disable_f L),40,?_⟩
 walk_nrm
 (refine Goes.step rfl (fun _ h₁=>?_);replace hF:=zn hF2 hF h₁;clear h₁;rw[stepG_region_end];simp only[goes_go];refine⟨zi,?_⟩)
 (refine Goes.step rfl (fun _ h₁=>?_);replace hF:=zn hF2 hF h₁;clear h₁;rw[stepG_region];simp only[goes_go,List.size_toArray,List.length_cons,List.length_nil,Nat.zero_add,List.range,List.range.loop];refine⟨zi,?_⟩)
 (refine Goes.step rfl (fun _ h₁=>?_);replace hF:=zn hF2 hF h₁;clear h₁;rw[stepG_defer rfl rfl (by k_ne) rfl];simp only[goes_go];refine⟨zi,?_⟩;walk_nrm)
 iterate 8 (refine Goes.step rfl (fun _ h₁=>?_);replace hF:=zn hF2 hF h₁;clear h₁;first|(rw[stepG_region_end];simp only[goes_go];refine⟨zi,?_⟩)|(rw[stepG_seq];simp only[goes_go];refine⟨zi,?_⟩)|(rw[stepG_region];simp only[goes_go,List.size_toArray,List.length_cons,List.length_nil,Nat.zero_add,List.range,List.range.loop];refine⟨zi,?_⟩)|(refine goes_oper_k rfl rfl (by k_ne) (fun K hK=>?_);go_simp;refine hK _ _ ⟨zP fun e he=>?_,?_⟩;(have hm:=mem_listed he;simp[go_sem, *] at hm);clear hK K;try w_num))
 (refine Goes.step rfl (fun _ h₁=>?_);replace hF:=zn hF2 hF h₁;clear h₁;rw[stepG_entry_pure (.bool false) rfl rfl (by k_ne) rfl H.f_inBubble (x_inBubble_n L) (x_inBubble_b L) (x_inBubble_x L) (x_inBubble_f L)];simp only[goes_go];refine⟨zi,?_⟩;walk_nrm)
 iterate 11 (refine Goes.step rfl (fun _ h₁=>?_);replace hF:=zn hF2 hF h₁;clear h₁;first|(rw[stepG_region_end];simp only[goes_go];refine⟨zi,?_⟩)|(rw[stepG_cond (t:=false) rfl];simp only[goes_go,Bool.false_eq_true,↓reduceIte];refine⟨zi,?_⟩)|(rw[stepG_skip];simp only[goes_go];refine⟨zi,?_⟩)|(rw[stepG_seq];simp only[goes_go];refine⟨zi,?_⟩)|(rw[stepG_region];simp only[goes_go,List.size_toArray,List.length_cons,List.length_nil,Nat.reduceAdd,Nat.zero_add,List.range,List.range.loop];refine⟨zi,?_⟩)|(refine goes_oper_k rfl rfl (by k_ne) (fun K hK=>?_);go_simp;refine hK _ _ ⟨zP fun e he=>?_,?_⟩;(have hm:=mem_listed he;simp[go_sem, *] at hm);clear hK K;try w_num))
 (refine Goes.step rfl (fun _ h₁=>?_);replace hF:=zn hF2 hF h₁;clear h₁;refine goes_call rfl rfl (by k_ne) rfl H.f_uAdd (nm_uAdd L) rfl ⟨zi,?_⟩;walk_nrmf uAddFn)
 iterate 10 (refine Goes.step rfl (fun _ h₁=>?_);replace hF:=zn hF2 hF h₁;clear h₁;first|(rw[stepG_seq];simp only[goes_go];refine⟨zi,?_⟩)|(rw[stepG_region];simp only[goes_go,List.size_toArray,List.length_cons,List.length_nil,Nat.reduceAdd,Nat.zero_add,List.range,List.range.loop];refine⟨zi,?_⟩)|(rw[stepG_region_end];simp only[goes_go];refine⟨zi,?_⟩)|(refine goes_oper_k rfl rfl (by k_ne) (fun K hK=>?_);go_simp;refine hK _ _ ⟨zP fun e he=>?_,?_⟩;(have hm:=mem_listed he;simp[go_sem, *] at hm);clear hK K;try w_num))
 refine Goes.stop (fun w₂ h₂=>?_)
 replace hF:=zn hF2 hF h₂
 clear h₂
 refine⟨rfl,fun v hv hw=>?_⟩
 rcases Nat.eq_zero_or_pos v with rfl|hvp
 ·-- THE COUNT IS NOW 1
  replace hw:WgAt L.tWg Wg w₂ 0 0:=by simpa using hw
  have z:(((0:Nat):Int)+1)*KK=KK:=by simp
  rw[z]
  have e0:IntKind.u64.wrap (0+4294967296)=KK:=by decide
  refine⟨_,(stepG_add_atomic rfl rfl (by k_ne) rfl H.f_addU64 (x_addU64_n L) (x_addU64_b L) (x_addU64_x L) .u64 (x_addU64_f L) rfl rfl hw.cellSt (hw.thaw 0)).trans (by rw[e0];rfl),110,?_⟩
  replace hF:F (w₂.setCell (stA Wg) (.int .u64 KK))∧WgLive L.tWg Wg (w₂.setCell (stA Wg) (.int .u64 KK)):=⟨hF2 _ _ (rm_st hCW hVW hw _) hF.1,⟨_,_,hw.setSt _⟩⟩
  clear hw
  simp only[KK] at hF ⊢
  walk_nrm
  (refine Goes.step rfl (fun _ h₁=>?_);replace hF:=zn hF2 hF h₁;clear h₁;refine goes_oper_k rfl rfl (by k_ne) (fun K hK=>?_);go_simp;refine hK _ _ ⟨zP fun e he=>?_,?_⟩;(have hm:=mem_listed he;simp[go_sem, *] at hm);clear hK K;try w_num)
  (refine Goes.step rfl (fun _ h₁=>?_);replace hF:=zn hF2 hF h₁;clear h₁;rw[stepG_region_end];simp only[goes_go];refine⟨zi,?_⟩)
  (refine Goes.step rfl (fun _ h₁=>?_);replace hF:=zn hF2 hF h₁;clear h₁;rw[stepG_ret'];simp only[goes_go];refine⟨zi,?_⟩)
  (refine Goes.step rfl (fun _ h₁=>?_);replace hF:=zn hF2 hF h₁;clear h₁;refine goes_leave1 rfl rfl H.f_uAdd rfl ⟨zi,?_⟩;walk_nrm)
  iterate 48 (refine Goes.step rfl (fun _ h₁=>?_);replace hF:=zn hF2 hF h₁;clear h₁;first|(rw[stepG_region_end];simp only[goes_go];refine⟨zi,?_⟩)|(rw[stepG_seq];simp only[goes_go];refine⟨zi,?_⟩)|(rw[stepG_region];simp only[goes_go,List.size_toArray,List.length_cons,List.length_nil,Nat.reduceAdd,Nat.zero_add,List.range,List.range.loop];refine⟨zi,?_⟩)|(rw[stepG_unwanted rfl rfl];simp only[goes_go];refine⟨zi,?_⟩;walk_nrm)|(rw[stepG_cond (t:=false) rfl];simp only[goes_go,Bool.false_eq_true,↓reduceIte];refine⟨zi,?_⟩)|(rw[stepG_skip];simp only[goes_go];refine⟨zi,?_⟩)|(rw[stepG_cond (t:=true) rfl];simp only[goes_go,↓reduceIte];refine⟨zi,?_⟩)|(refine goes_oper_k rfl rfl (by k_ne) (fun K hK=>?_);go_simp;refine hK _ _ ⟨zP fun e he=>?_,?_⟩;(have hm:=mem_listed he;simp[go_sem, *] at hm);clear hK K;try w_num))
  (refine Goes.step rfl (fun _ h₁=>?_);replace hF:=zn hF2 hF h₁;clear h₁;refine goes_oper_k rfl rfl (by k_ne) (fun Kx hKx=>?_);have hcv:=run_convert_to_unsafe (P:=P) H.underlying_tPU32 H.underlying_tUP H.room_tU32 (WgLive.cell1 hF.2).choose_spec;have hce:=fun es=>events_convert_to_unsafe (P:=P) H.underlying_tPU32 H.underlying_tUP H.room_tU32 (WgLive.cell1 hF.2).choose_spec es;go_simp;refine hKx _ _ ⟨zP fun ex hex=>?_,?_⟩;(have hmx:=mem_listed hex;simp[go_sem,hce] at hmx);clear hKx Kx hcv hce)
  refine Goes.step rfl (fun _ h₁=>?_);replace hF:=zn hF2 hF h₁;clear h₁
  rw[stepG_markAt .read (by simp) rfl rfl (by k_ne) rfl H.f_raceRead (x_raceRead_n L) (x_raceRead_b L) (x_raceRead_x L) (x_raceRead_f L) (ad:=⟨Wg,1,none⟩) (by simp[Act.eval])]
  simp only[goes_go]
  refine⟨dm_read rfl,?_⟩
  walk_nrm
  iterate 38 (refine Goes.step rfl (fun _ h₁=>?_);replace hF:=zn hF2 hF h₁;clear h₁;first|(rw[stepG_region_end];simp only[goes_go];refine⟨zi,?_⟩)|(rw[stepG_seq];simp only[goes_go];refine⟨zi,?_⟩)|(rw[stepG_region];simp only[goes_go,List.size_toArray,List.length_cons,List.length_nil,Nat.reduceAdd,Nat.zero_add,List.range,List.range.loop];refine⟨zi,?_⟩)|(rw[stepG_cond (t:=false) rfl];simp only[goes_go,Bool.false_eq_true,↓reduceIte];refine⟨zi,?_⟩)|(rw[stepG_skip];simp only[goes_go];refine⟨zi,?_⟩)|(rw[stepG_unwanted rfl rfl];simp only[goes_go];refine⟨zi,?_⟩;walk_nrm)|(rw[stepG_cond (t:=true) rfl];simp only[goes_go,↓reduceIte];refine⟨zi,?_⟩)|(refine goes_oper_k rfl rfl (by k_ne) (fun K hK=>?_);go_simp;refine hK _ _ ⟨zP fun e he=>?_,?_⟩;(have hm:=mem_listed he;simp[go_sem, *] at hm);clear hK K;try w_num))
  (refine Goes.step rfl (fun _ h₁=>?_);replace hF:=zn hF2 hF h₁;clear h₁;rw[stepG_ret'];simp only[goes_go];refine⟨zi,?_⟩)
  refine Goes.stop (fun w₃ h₃=>?_)
  replace hF:=zn hF2 hF h₃
  clear h₃
  refine⟨rfl,_,stepG_unwind_entry (v:=.tuple #[]) (evs:=#[mk .enable]) rfl H.f_enable (x_enable_n L) (x_enable_b L) (x_enable_x L) (x_enable_f L) (by simp[Extern.Race.none_]) (by simp[mk]) (by simp[mk]),mT+1,?_⟩
  (refine Goes.step rfl (fun _ h₁=>?_);replace hF:=zn hF2 hF h₁;clear h₁;refine goes_leave0 rfl rfl H.f_add rfl ⟨zi,?_⟩;walk_nrm)
  exact hT _ hF.1 hF.2
 ·-- IT IS MORE
  obtain⟨V,hV⟩:∃ V:Int,V=(v:Int)+1:=⟨_,rfl⟩
  obtain⟨S,hS⟩:∃ S:Int,S=V*KK:=⟨_,rfl⟩
  have eS:IntKind.u64.wrap ((v:Int)*KK+4294967296)=S:=by rw[IntKind.wrap_u64,hS,hV];simp only[KK];omega
  rw[← hV,← hS]
  have a1:S / 4294967296=V:=by rw[hS];simp only[KK];omega
  have b1:bits .and .u64 S 2147483648=0:=by rw[hS,hV];have:=st_flag (v+1) 0 (by omega) (by omega);simpa[KK] using this
  have b2:bits .and .u64 S 2147483647=0:=by rw[hS,hV];have:=st_waiters (v+1) 0 (by omega) (by omega);simpa[KK] using this
  have c1:IntKind.i32.wrap V=V:=by rw[IntKind.wrap_i32];omega
  have hV1 : 1<V:=by omega
  have hV2:V<2147483648:=by omega
  have q1:(V==1)=false:=by simp;omega
  have q2:decide (V=1)=false:=decide_eq_false (by omega)
  have q3:decide (V<0)=false:=decide_eq_false (by omega)
  have q4:decide (0<V)=true:=decide_eq_true (by omega)
  have q5:(V==0)=false:=by simp;omega
  have q6:decide (V=0)=false:=decide_eq_false (by omega)
  refine⟨_,(stepG_add_atomic rfl rfl (by k_ne) rfl H.f_addU64 (x_addU64_n L) (x_addU64_b L) (x_addU64_x L) .u64 (x_addU64_f L) rfl rfl hw.cellSt (hw.thaw 0)).trans (by rw[eS];rfl),110,?_⟩
  replace hF:F (w₂.setCell (stA Wg) (.int .u64 S))∧WgLive L.tWg Wg (w₂.setCell (stA Wg) (.int .u64 S)):=⟨hF2 _ _ (rm_st hCW hVW hw _) hF.1,⟨_,_,hw.setSt _⟩⟩
  clear hw hS hV eS
  walk_nrm
  (refine Goes.step rfl (fun _ h₁=>?_);replace hF:=zn hF2 hF h₁;clear h₁;refine goes_oper_k rfl rfl (by k_ne) (fun K hK=>?_);go_simp;refine hK _ _ ⟨zP fun e he=>?_,?_⟩;(have hm:=mem_listed he;simp[go_sem, *] at hm);clear hK K;try w_num)
  (refine Goes.step rfl (fun _ h₁=>?_);replace hF:=zn hF2 hF h₁;clear h₁;rw[stepG_region_end];simp only[goes_go];refine⟨zi,?_⟩)
  (refine Goes.step rfl (fun _ h₁=>?_);replace hF:=zn hF2 hF h₁;clear h₁;rw[stepG_ret'];simp only[goes_go];refine⟨zi,?_⟩)
  (refine Goes.step rfl (fun _ h₁=>?_);replace hF:=zn hF2 hF h₁;clear h₁;refine goes_leave1 rfl rfl H.f_uAdd rfl ⟨zi,?_⟩;walk_nrm)
  iterate 13 (refine Goes.step rfl (fun _ h₁=>?_);replace hF:=zn hF2 hF h₁;clear h₁;first|(rw[stepG_region_end];simp only[goes_go];refine⟨zi,?_⟩)|(rw[stepG_seq];simp only[goes_go];refine⟨zi,?_⟩)|(rw[stepG_region];simp only[goes_go,List.size_toArray,List.length_cons,List.length_nil,Nat.reduceAdd,Nat.zero_add,List.range,List.range.loop];refine⟨zi,?_⟩)|(rw[stepG_unwanted rfl rfl];simp only[goes_go];refine⟨zi,?_⟩;walk_nrm)|(refine goes_oper_k rfl rfl (by k_ne) (fun K hK=>?_);go_simp;refine hK _ _ ⟨zP fun e he=>?_,?_⟩;(have hm:=mem_listed he;simp[go_sem, *] at hm);clear hK K;try w_num))
  (refine Goes.step rfl (fun _ h₁=>?_);replace hF:=zn hF2 hF h₁;clear h₁;rw[stepG_cond (t:=false) (by first|rfl|(simp[Act.eval];omega))];simp only[goes_go,Bool.false_eq_true,↓reduceIte];refine⟨zi,?_⟩)
  iterate 29 (refine Goes.step rfl (fun _ h₁=>?_);replace hF:=zn hF2 hF h₁;clear h₁;first|(rw[stepG_skip];simp only[goes_go];refine⟨zi,?_⟩)|(rw[stepG_seq];simp only[goes_go];refine⟨zi,?_⟩)|(rw[stepG_region];simp only[goes_go,List.size_toArray,List.length_cons,List.length_nil,Nat.reduceAdd,Nat.zero_add,List.range,List.range.loop];refine⟨zi,?_⟩)|(rw[stepG_region_end];simp only[goes_go];refine⟨zi,?_⟩)|(refine goes_oper_k rfl rfl (by k_ne) (fun K hK=>?_);go_simp;refine hK _ _ ⟨zP fun e he=>?_,?_⟩;(have hm:=mem_listed he;simp[go_sem, *] at hm);clear hK K;try w_num))
  (refine Goes.step rfl (fun _ h₁=>?_);replace hF:=zn hF2 hF h₁;clear h₁;rw[stepG_cond (t:=false) (by first|rfl|(simp[Act.eval];omega))];simp only[goes_go,Bool.false_eq_true,↓reduceIte];refine⟨zi,?_⟩)
  iterate 7 (refine Goes.step rfl (fun _ h₁=>?_);replace hF:=zn hF2 hF h₁;clear h₁;first|(rw[stepG_skip];simp only[goes_go];refine⟨zi,?_⟩)|(rw[stepG_seq];simp only[goes_go];refine⟨zi,?_⟩)|(rw[stepG_region];simp only[goes_go,List.size_toArray,List.length_cons,List.length_nil,Nat.reduceAdd,Nat.zero_add,List.range,List.range.loop];refine⟨zi,?_⟩)|(rw[stepG_region_end];simp only[goes_go];refine⟨zi,?_⟩)|(refine goes_oper_k rfl rfl (by k_ne) (fun K hK=>?_);go_simp;refine hK _ _ ⟨zP fun e he=>?_,?_⟩;(have hm:=mem_listed he;simp[go_sem, *] at hm);clear hK K;try w_num))
  (refine Goes.step rfl (fun _ h₁=>?_);replace hF:=zn hF2 hF h₁;clear h₁;rw[stepG_cond (t:=false) (by first|rfl|(simp[Act.eval];omega))];simp only[goes_go,Bool.false_eq_true,↓reduceIte];refine⟨zi,?_⟩)
  iterate 17 (refine Goes.step rfl (fun _ h₁=>?_);replace hF:=zn hF2 hF h₁;clear h₁;first|(rw[stepG_skip];simp only[goes_go];refine⟨zi,?_⟩)|(rw[stepG_seq];simp only[goes_go];refine⟨zi,?_⟩)|(rw[stepG_region];simp only[goes_go,List.size_toArray,List.length_cons,List.length_nil,Nat.reduceAdd,Nat.zero_add,List.range,List.range.loop];refine⟨zi,?_⟩)|(rw[stepG_unwanted rfl rfl];simp only[goes_go];refine⟨zi,?_⟩;walk_nrm)|(rw[stepG_region_end];simp only[goes_go];refine⟨zi,?_⟩)|(refine goes_oper_k rfl rfl (by k_ne) (fun K hK=>?_);go_simp;refine hK _ _ ⟨zP fun e he=>?_,?_⟩;(have hm:=mem_listed he;simp[go_sem, *] at hm);clear hK K;try w_num))
  (refine Goes.step rfl (fun _ h₁=>?_);replace hF:=zn hF2 hF h₁;clear h₁;rw[stepG_cond (t:=false) (by first|rfl|(simp[Act.eval];omega))];simp only[goes_go,Bool.false_eq_true,↓reduceIte];refine⟨zi,?_⟩)
  iterate 11 (refine Goes.step rfl (fun _ h₁=>?_);replace hF:=zn hF2 hF h₁;clear h₁;first|(rw[stepG_skip];simp only[goes_go];refine⟨zi,?_⟩)|(rw[stepG_seq];simp only[goes_go];refine⟨zi,?_⟩)|(rw[stepG_region];simp only[goes_go,List.size_toArray,List.length_cons,List.length_nil,Nat.reduceAdd,Nat.zero_add,List.range,List.range.loop];refine⟨zi,?_⟩)|(rw[stepG_unwanted rfl rfl];simp only[goes_go];refine⟨zi,?_⟩;walk_nrm)|(rw[stepG_region_end];simp only[goes_go];refine⟨zi,?_⟩)|(refine goes_oper_k rfl rfl (by k_ne) (fun K hK=>?_);go_simp;refine hK _ _ ⟨zP fun e he=>?_,?_⟩;(have hm:=mem_listed he;simp[go_sem, *] at hm);clear hK K;try w_num))
  (refine Goes.step rfl (fun _ h₁=>?_);replace hF:=zn hF2 hF h₁;clear h₁;rw[stepG_cond (t:=true) (by first|rfl|(simp[Act.eval];omega))];simp only[goes_go,↓reduceIte];refine⟨zi,?_⟩)
  (refine Goes.step rfl (fun _ h₁=>?_);replace hF:=zn hF2 hF h₁;clear h₁;rw[stepG_ret'];simp only[goes_go];refine⟨zi,?_⟩)
  refine Goes.stop (fun w₃ h₃=>?_)
  replace hF:=zn hF2 hF h₃
  clear h₃
  refine⟨rfl,_,stepG_unwind_entry (v:=.tuple #[]) (evs:=#[mk .enable]) rfl H.f_enable (x_enable_n L) (x_enable_b L) (x_enable_x L) (x_enable_f L) (by simp[Extern.Race.none_]) (by simp[mk]) (by simp[mk]),mT+1,?_⟩
  (refine Goes.step rfl (fun _ h₁=>?_);replace hF:=zn hF2 hF h₁;clear h₁;refine goes_leave0 rfl rfl H.f_add rfl ⟨zi,?_⟩;walk_nrm)
  exact hT _ hF.1 hF.2
end
end Go.Par
