/- Walks: menus, and the function that it hands back. -/
import Derived.Test.YtlgiofglcgbjgaaM34
namespace Go.Gal
open Go Go.Par Go.Proofs Go.RowKit Go.Shelf
attribute [local go_sem] Oper.semAt_some
def intsC (xs:List Int):Array Value:=(xs.map (Value.int .i64)).toArray
def readM (w:World) (mB:Nat):List Int:=match w.heap[mB]? with
 | some (.cells cs _ _)=>cs.toList.map fun v=>match v with
  | .int _ x=>x
  | _=>0
 | _=>[]
theorem zat {w:World} {mB:Nat} {xs:List Int} (h:w.heap[mB]?=some (.cells (intsC xs) 3 (0,0))):readM w mB=xs:=by
 unfold readM intsC at *
 rw[h]
 simp only[List.map_map]
 exact (List.map_congr_left fun x _=>rfl).trans (List.map_id xs)
theorem zba {xs:List Int} {k:Nat} {x:Int} (h:xs[k]?=some x):(intsC xs)[k]?=some (.int .i64 x):=by
 unfold intsC
 simp[h]
theorem QW (xs:List Int) (k:Nat) (x:Int):(intsC xs).setIfInBounds k (.int .i64 x)=intsC (xs.set k x):=by
 unfold intsC
 rw[List.setIfInBounds_toArray,List.map_set]
theorem zaW {w:World} {mB:Nat} {xs:List Int} (h:w.heap[mB]?=some (.cells (intsC xs) 3 (0,0))):Ints w (some ⟨mB,0,none⟩) xs:=fun k x hx =>
 ⟨mB,0,rfl,by rw[Nat.zero_add];exact (za h k).trans (zba hx)⟩
theorem made3 (n:Nat):madeCells (Value.int .i64 0).cells (n*1)=intsC (List.replicate n 0):=by
 unfold intsC
 apply Array.ext
 ·simp[madeCells]
 ·intro i h1 h2
  simp[madeCells,Value.cells,Nat.mod_one]
section
variable {fs:Array Func} [LikeS fs]
theorem menus_any (K:Kt) (gA dA hA:Option Addr) (gc dc hc:Nat) (w:World):Calls (Pf fs) 90 #[ktV K gA dA hA gc dc hc] w fun e w'=>e=.returned (.func (.func 112) #[] #[.pointer (some ⟨w.heap.size,0,none⟩)])∧w.alloc (.cells #[.slice gA K.goods.length gc,.slice dA K.dishes.length dc,.slice hA K.hauls.length hc] 29)=w':=by
 have hmf:∀ (fn:Fn) (first cap:Array Value) (w:World),(Instr.makeFunc fn first cap).run (Pf fs) w=.ok (.func fn first cap) w:=fun _ _ _ _=>rfl
 unfold ktV
 go_enter LK.func90,Try.ntmps90
 go_wp2_with fail
 go_ret
 exact⟨rfl,rfl⟩
set_option maxRecDepth 20000 in
set_option maxHeartbeats 2000000 in
theorem menus_gen (n l kb nd nh:Nat) (gA dA hA:Option Addr) (ng gc dc hc:Nat) (hn1 : 1≤n) (J:List (List Int)→World→Prop) (Fin:World→Prop) (w:World)
  (hkb:w.heap[kb]?=some (.cells #[.slice gA ng gc,.slice dA nd dc,.slice hA nh hc] 29 (0,0))) (h1 : 1≤nd) (hnd:nd≤1000) (hnh:nh≤1000) (hnh1 : 1≤nh)
  (hJs:∀ pre W W',J pre W→w.heap.size≤W.heap.size→But w.heap.size W W'→J pre W')
  (hY:∀ pre xs A c W,J pre W→w.heap.size<W.heap.size→L.OwnInts W (w.heap.size+1) A c xs→xs.length=nh→qC nd none xs=0→xs∈qR nd nh→YieldAt Fence.wide (n-1) (Pf fs) l #[.slice A xs.length c] W fun e W'=>(e=.returned (.bool true)∧J (pre++[xs]) W'∧W.heap.size≤W'.heap.size∧W'.heap[w.heap.size]?=W.heap[w.heap.size]?∧W'.heap[kb]?=W.heap[kb]?)∨(e=.returned (.bool false)∧Fin W'))
  (h0:J [] w) :
  CallsIn Fence.wide n (Pf fs) 112 #[.func (.yield l) #[] #[],.pointer (some ⟨kb,0,none⟩)] w fun e W'=>(∃ v,e=.returned v)∧(J (qR nd nh) W'∨Fin W'):=by
 have k102:Fence.wide.fn 102:=trivial
 have k93:Fence.wide.fn 93:=trivial
 have HKB:=Lib.hid hkb
 have HJS:=Lib.hid hJs
 have HY:=Lib.hid hY
 have H0:=Lib.hid h0
 have hkl:=zj hkb
 have y0:=za hkb 0
 have y1:=za hkb 1
 have y2:=za hkb 2
 simp only[List.getElem?_toArray,List.getElem?_cons_succ,List.getElem?_cons_zero] at y0 y1 y2
 have hm:=fun W=>zaN (fs:=fs) Try.underlying22 inf3 nh (by omega) (by omega) (by omega) W
 simp only[made3] at hm
 clear hkb hJs hY h0
 refine callsIn_of_wp LK.func112 rfl trivial ?_ rfl
 simp only[Try.ntmps112,List.size_toArray,List.length_cons,List.length_nil,Nat.reduceAdd,Nat.reduceSub,Array.replicate_succ,Array.replicate_zero,List.push_toArray,List.append_toArray,List.nil_append,List.cons_append]
 gi_wp2_with fail
 have hW0:=heap_alloc_new w (.cells (intsC (List.replicate nh 0)) 3)
 have hbut0:But w.heap.size w (w.alloc (.cells (intsC (List.replicate nh 0)) 3)):=(Grown.alloc _ _).but _
 have hS0:Hid (digits nd (List.replicate nh 0)∧(List.replicate nh (0:Int)).length=nh∧J [] (w.alloc (.cells (intsC (List.replicate nh 0)) 3))∧qR nd nh=[]++visit nd (nd ^ nh-val nd (List.replicate nh 0)) (List.replicate nh 0)∧(w.alloc (.cells (intsC (List.replicate nh 0)) 3)).heap[w.heap.size]?=some (.cells (intsC (List.replicate nh 0)) 3 (0,0))∧(w.alloc (.cells (intsC (List.replicate nh 0)) 3)).heap[kb]?=some (.cells #[.slice gA ng gc,.slice dA nd dc,.slice hA nh hc] 29 (0,0))):=by
  refine⟨fun x hx=>?_,by simp,HJS.out _ _ _ H0.out (Nat.le_refl _) hbut0,by rw[zag];rfl,hW0,zt HKB.out _⟩
  have:=List.eq_of_mem_replicate hx
  subst this
  omega
 clear hW0 hbut0 hm H0 y0 y1 y2
 generalize w.alloc (.cells (intsC (List.replicate nh 0)) 3)=W0 at hS0 ⊢
 generalize hmb:w.heap.size=mB at *
 have HMB:=Lib.hid hmb
 clear hmb
 gi_loopw [4] (fun i wr=>∃ (xs:List Int) (pre:List (List Int)),Hid (digits nd xs∧xs.length=nh∧J pre wr∧qR nd nh=pre++visit nd (nd ^ nh-val nd xs) xs∧wr.heap[mB]?=some (.cells (intsC xs) 3 (0,0))∧wr.heap[kb]?=some (.cells #[.slice gA ng gc,.slice dA nd dc,.slice hA nh hc] 29 (0,0)))) (fun _ wr=>nd ^ nh-val nd (readM wr mB))
 case atStart=>exact⟨_,_,hS0⟩
 case round =>
  obtain⟨xs,pre,hR⟩:=hrel
  clear hS0
  obtain⟨hd,hl,hJ,hV,hM,hK⟩:=hR.out
  have hr:Calls (Pf fs) 102 #[.agg #[.slice gA ng gc,.slice dA nd dc,.slice hA nh hc],.slice (some ⟨mB,0,none⟩) xs.length nh] wr fun e w'=>e=.returned (.int .i64 (qk nd nh xs))∧Grown wr w':=zbP (fs:=fs) xs (some ⟨mB,0,none⟩) nh gA dA hA ng gc nd dc nh hc wr (zaW hM) (by omega) (by omega)
  have hre:qk nd nh xs=qC nd none xs:=by
   unfold qk
   rw[Yb (by omega) (by omega),if_neg (by simp)]
  rw[hre,hl] at hr
  have HRM:=Lib.hid (zat hM)
  have HRI:=Lib.hid (callsIn_wide (n:=n-1).2 hr)
  have hkl2:=zj hK
  have z0:=za hK 0
  have z1:=za hK 1
  have z2:=za hK 2
  simp only[List.getElem?_toArray,List.getElem?_cons_succ,List.getElem?_cons_zero] at z0 z1 z2
  clear hr hre hJ hV hM hK
  by_cases hv:qC nd none xs=0
  ·rw[hv] at HRI
   have HV:=Lib.hid hv
   clear hv
   gi_wp2_with (first|(gi_at_call 102;refine HRI.out.mono ?_;rintro e w1 ⟨rfl,hg1⟩;have HG1:=Lib.hid hg1;clear hg1)|(gi_at_call 93;obtain⟨hd,hl,hJ,hVV,hM,hK⟩:=hR.out;have hcl:=YB (fs:=fs) xs ⟨mB,0,none⟩ nh w1 (zaW (zf hM HG1.out)) (by omega);rw[hl] at hcl;refine (callsIn_wide (n:=n-1).2 hcl).mono ?_;rintro e w2 ⟨A,c,rfl,hg2,ho2⟩;have hmb:=zj hM;have hmem:=(show xs∈qR nd nh by (rw[hVV,Jk hd hl,if_pos HV.out];simp));have hyy:=HY.out pre xs A c w2 (HJS.out pre wr w2 hJ (by omega) ((HG1.out.trans hg2).but mB)) (by have:=HG1.out.size;have:=hg2.size;omega) (qS ho2 (by have:=HG1.out.size;omega)) hl HV.out hmem;rw[hl] at hyy;obtain⟨fn,tmps,assign,body,hy,hRd⟩:=hyy;have HG2:=Lib.hid hg2;clear hd hl hJ hVV hM hK hcl hmb hg2 ho2 hmem))
   refine hRd.mono ?_
   rintro e Wc (⟨rfl,hJ3,hs3,hm3,hk3⟩|⟨rfl,hF3⟩)
   rotate_left
   ·have HF3:=Lib.hid hF3
    clear hF3 hRd
    gi_wp2_with fail
    exact bodyPost_ret (results_none rfl _ _ _) rfl ⟨⟨_,rfl⟩,.inr HF3.out⟩
   have HR2:Hid (digits nd xs∧xs.length=nh∧J (pre++[xs]) Wc∧qR nd nh=(pre++[xs])++restM nd (nd ^ nh-val nd xs-1) xs∧Wc.heap[mB]?=some (.cells (intsC xs) 3 (0,0))∧Wc.heap[kb]?=some (.cells #[.slice gA ng gc,.slice dA nd dc,.slice hA nh hc] 29 (0,0))):=by
    obtain⟨hd,hl,hJ,hVV,hM,hK⟩:=hR.out
    refine⟨hd,hl,hJ3,?_,?_,?_⟩
    ·rw[hVV,Jk hd hl,if_pos HV.out,List.append_assoc]
    ·rw[hm3]
     exact zf (zf hM HG1.out) HG2.out
    ·rw[hk3]
     exact zf (zf hK HG1.out) HG2.out
   clear hJ3 hs3 hm3 hk3 hRd
   generalize pre++[xs]=pre2 at HR2
   gi_wp2_with fail
   refine wpIn_wide.2 ?_
   have hk0:Hid (Wc.heap[mB]?=some (.cells (intsC (xs.take nh++List.replicate (nh-nh) 0)) 3 (0,0))):=by
    obtain⟨hd,hl,hJ,hVV,hM,hK⟩:=HR2.out
    show _=_
    rw[hM,Nat.sub_self,List.take_of_length_le (by omega)]
    simp
   go_loopw [4] (fun i wq=>∃ p:Nat,p≤nh∧i=.int .i64 ((p:Int)-1)∧Hid (wq.heap[mB]?=some (.cells (intsC (xs.take p++List.replicate (nh-p) 0)) 3 (0,0)))∧Hid (∀ y∈xs.drop p,y=(nd:Int)-1)∧Hid (But mB Wc wq)) (fun i _=>(intOf i+1).toNat)
   case atStart =>
    have ha0:Hid (∀ y∈xs.drop nh,y=(nd:Int)-1):=by
     obtain⟨hd,hl,hJ,hVV,hM,hK⟩:=HR2.out
     show ∀ y∈xs.drop nh,y=(nd:Int)-1
     rw[List.drop_of_length_le (by omega)]
     intro y hy
     cases hy
    exact⟨nh,Nat.le_refl _,by go_num,hk0,ha0,But.refl _ _⟩
   case round =>
    obtain⟨p,hp,rfl,hm,hall,hb⟩:=hrel
    clear hk0
    obtain⟨hd,hl,hJ,hVV,hM,hK⟩:=HR2.out
    have hkm:kb≠mB:=by omega
    have hK2:=hb.out.block hkm hK
    have c1:=za hK2 1
    simp only[List.getElem?_toArray,List.getElem?_cons_succ,List.getElem?_cons_zero] at c1
    have hpi:(p:Int)≤nh:=by omega
    cases p with
    | zero =>
     have hbn:bump nd xs=none:=Jb (by simpa using hall.out)
     have hfin:J (qR nd nh) wr:=by
      rw[hVV,zas hbn,List.append_nil]
      exact HJS.out _ _ _ hJ (Nat.le_of_lt (zj hM)) hb.out
     have HFIN:=Lib.hid hfin
     have hm0:=hm
     clear hfin hbn hd hl hJ hVV hM hK hK2 hm
     rw[show (((0:Nat):Int)-1)=-1 from rfl]
     go_wp2_with fail
     go_quiet (fail)
     go_wp2_with fail
     gi_wp2_with fail
     refine bodyPost_ret (results_none rfl _ _ _) rfl ?_
     exact⟨⟨_,rfl⟩,.inl (HJS.out _ _ _ HFIN.out (by have:=hb.out.size;have:=zj hm0.out;omega) ((But.refl mB wr).drewN nq))⟩
    | succ q =>
     obtain⟨x,hx⟩:∃ x,xs[q]?=some x:=⟨_,List.getElem?_eq_getElem (by omega)⟩
     have hzx:(xs.take (q+1)++List.replicate (nh-(q+1)) 0)[q]?=some x:=by
      rw[List.getElem?_append_left (by simp;omega),List.getElem?_take,if_pos (by omega)]
      exact hx
     have d0:=(za hm.out q).trans (zba hzx)
     have d1:=zk hm.out q
     have hqi:(q:Int)<(nh:Int):=by omega
     have h0q:(0:Int)≤(q:Int):=by omega
     have hdx:=hd x (List.mem_of_getElem? hx)
     have hsplit:xs=xs.take q++x::xs.drop (q+1):=by
      have e:=List.take_append_drop q xs
      rw[List.drop_eq_getElem_cons (by omega)] at e
      have hx2:xs[q]'(by omega)=x:=by
       have:=List.getElem?_eq_some_iff.1 hx
       exact this.2
      rw[hx2] at e
      exact e.symm
     rw[show (((q+1:Nat):Int)-1)=(q:Int) by omega]
     by_cases hxe:x=(nd:Int)-1
     ·have hall2:Hid (∀ y∈xs.drop q,y=(nd:Int)-1):=by
       show ∀ y∈xs.drop q,y=(nd:Int)-1
       rw[List.drop_eq_getElem_cons (by omega)]
       intro y hy
       rcases List.mem_cons.1 hy with e|hy
       ·have hx2:=(List.getElem?_eq_some_iff.1 hx).2
        rw[e,hx2]
        exact hxe
       ·exact hall.out y hy
      have hset:Hid ((wr.setCell ⟨mB,q,none⟩ (.int .i64 0)).heap[mB]?=some (.cells (intsC (xs.take q++List.replicate (nh-q) 0)) 3 (0,0))):=by
       show _=_
       rw[zR hm.out,QW,zcR hl (by omega)]
      subst hxe
      clear hd hl hJ hVV hM hK hK2 hall hsplit hzx hx hdx
      go_wp2_with fail
      go_quiet (fail)
      go_wp2_with fail
      go_roundw
      case rel=>exact⟨q,by omega,rfl,hset,hall2,(hb.out.drewN nq).set q _⟩
      case measure=>simp[intOf]
     ·have hb1:bump nd xs=some (xs.take q++(x+1)::List.replicate (nh-(q+1)) 0):=by
       have:=zcD (l2:=xs.drop (q+1)) hall.out hxe (xs.take q)
       rw[← hsplit,List.length_drop,hl] at this
       exact this
      have hfin:∀ W,W.heap[mB]?=some (.cells (intsC (xs.take q++(x+1)::List.replicate (nh-(q+1)) 0)) 3 (0,0))→But mB Wc W→Hid (digits nd (xs.take q++(x+1)::List.replicate (nh-(q+1)) 0)∧(xs.take q++(x+1)::List.replicate (nh-(q+1)) 0).length=nh∧J pre2 W∧qR nd nh=pre2++visit nd (nd ^ nh-val nd (xs.take q++(x+1)::List.replicate (nh-(q+1)) 0)) (xs.take q++(x+1)::List.replicate (nh-(q+1)) 0)∧W.heap[mB]?=some (.cells (intsC (xs.take q++(x+1)::List.replicate (nh-(q+1)) 0)) 3 (0,0))∧W.heap[kb]?=some (.cells #[.slice gA ng gc,.slice dA nd dc,.slice hA nh hc] 29 (0,0))) ∧
        nd ^ nh-val nd (xs.take q++(x+1)::List.replicate (nh-(q+1)) 0)<nd ^ nh-val nd xs:=fun W hWm hWb=>by
       have hvl:=zcs hd
       rw[hl] at hvl
       have hbv:=zbs h1 hd hb1
       refine⟨⟨zbt hd hb1,(Yj hb1).trans hl,HJS.out _ _ _ hJ (Nat.le_of_lt (zj hM)) hWb,?_,hWm,hWb.block hkm hK⟩,by omega⟩
       rw[hVV,zar hb1,hbv]
       congr 2
      have hset:(wr.setCell ⟨mB,q,none⟩ (.int .i64 (x+1))).heap[mB]?=some (.cells (intsC (xs.take q++(x+1)::List.replicate (nh-(q+1)) 0)) 3 (0,0)):=by
       rw[zR hm.out,QW,zcS hl (by omega)]
      have hw1:wrap64 (x+1)=x+1:=IntWalk.wrap64_in _ (by omega)
      have HFIN:=Lib.hid hfin
      have HSET:=Lib.hid hset
      have hxb:(x==(nd:Int)-1)=false:=by simpa using hxe
      have hq0:¬ (q:Int)<0:=by omega
      clear hfin hset hd hl hJ hVV hM hK hK2 hall hsplit hzx hx hdx hb1
      go_wp2_with fail
      go_quiet (fail)
      go_wp2_with fail
      gi_wp2_with fail
      have hf:=HFIN.out ((wr.drewN nq).setCell ⟨mB,q,none⟩ (.int .i64 (x+1))) HSET.out ((hb.out.drewN nq).set q (.int .i64 (x+1)))
      refine⟨⟨_,pre2,hf.1⟩,?_⟩
      rw[HRM.out,zat (w:=(wr.drewN nq).setCell ⟨mB,q,none⟩ (.int .i64 (x+1))) HSET.out]
      exact hf.2
  ·have hvb:(qC (nd:Int) none xs==0)=false:=by simpa using hv
   have HV:Hid (¬ qC nd none xs=0):=hv
   have HVE:∀ W:World,Hid (visit nd (nd ^ nh-val nd xs) xs=restM nd (nd ^ nh-val nd xs-1) xs):=fun _=>by
    obtain⟨hd,hl,_⟩:=hR.out
    show _=_
    rw[Jk hd hl,if_neg HV.out,List.nil_append]
   have HVE:=HVE wr
   generalize qC (nd:Int) none xs=rv at HRI hv hvb
   gi_wp2_with (gi_at_call 102;refine HRI.out.mono ?_;rintro e Wc ⟨rfl,hg1⟩;have HG1:=Lib.hid hg1;clear hg1)
   refine⟨(fun _ h=>(by cases h)),?_⟩
   have HR2:Hid (digits nd xs∧xs.length=nh∧J pre Wc∧qR nd nh=pre++restM nd (nd ^ nh-val nd xs-1) xs∧Wc.heap[mB]?=some (.cells (intsC xs) 3 (0,0))∧Wc.heap[kb]?=some (.cells #[.slice gA ng gc,.slice dA nd dc,.slice hA nh hc] 29 (0,0))):=by
    obtain⟨hd,hl,hJ,hVV,hM,hK⟩:=hR.out
    exact⟨hd,hl,HJS.out _ _ _ hJ (Nat.le_of_lt (zj hM)) (HG1.out.but mB),by rw[hVV,HVE.out],zf hM HG1.out,zf hK HG1.out⟩
   generalize pre=pre2 at HR2
   gi_wp2_with fail
   refine wpIn_wide.2 ?_
   have hk0:Hid (Wc.heap[mB]?=some (.cells (intsC (xs.take nh++List.replicate (nh-nh) 0)) 3 (0,0))):=by
    obtain⟨hd,hl,hJ,hVV,hM,hK⟩:=HR2.out
    show _=_
    rw[hM,Nat.sub_self,List.take_of_length_le (by omega)]
    simp
   go_loopw [4] (fun i wq=>∃ p:Nat,p≤nh∧i=.int .i64 ((p:Int)-1)∧Hid (wq.heap[mB]?=some (.cells (intsC (xs.take p++List.replicate (nh-p) 0)) 3 (0,0)))∧Hid (∀ y∈xs.drop p,y=(nd:Int)-1)∧Hid (But mB Wc wq)) (fun i _=>(intOf i+1).toNat)
   case atStart =>
    have ha0:Hid (∀ y∈xs.drop nh,y=(nd:Int)-1):=by
     obtain⟨hd,hl,hJ,hVV,hM,hK⟩:=HR2.out
     show ∀ y∈xs.drop nh,y=(nd:Int)-1
     rw[List.drop_of_length_le (by omega)]
     intro y hy
     cases hy
    exact⟨nh,Nat.le_refl _,by go_num,hk0,ha0,But.refl _ _⟩
   case round =>
    obtain⟨p,hp,rfl,hm,hall,hb⟩:=hrel
    clear hk0
    obtain⟨hd,hl,hJ,hVV,hM,hK⟩:=HR2.out
    have hkm:kb≠mB:=by omega
    have hK2:=hb.out.block hkm hK
    have c1:=za hK2 1
    simp only[List.getElem?_toArray,List.getElem?_cons_succ,List.getElem?_cons_zero] at c1
    have hpi:(p:Int)≤nh:=by omega
    cases p with
    | zero =>
     have hbn:bump nd xs=none:=Jb (by simpa using hall.out)
     have hfin:J (qR nd nh) wr:=by
      rw[hVV,zas hbn,List.append_nil]
      exact HJS.out _ _ _ hJ (Nat.le_of_lt (zj hM)) hb.out
     have HFIN:=Lib.hid hfin
     have hm0:=hm
     clear hfin hbn hd hl hJ hVV hM hK hK2 hm
     rw[show (((0:Nat):Int)-1)=-1 from rfl]
     go_wp2_with fail
     go_quiet (fail)
     go_wp2_with fail
     gi_wp2_with fail
     refine bodyPost_ret (results_none rfl _ _ _) rfl ?_
     exact⟨⟨_,rfl⟩,.inl (HJS.out _ _ _ HFIN.out (by have:=hb.out.size;have:=zj hm0.out;omega) ((But.refl mB wr).drewN nq))⟩
    | succ q =>
     obtain⟨x,hx⟩:∃ x,xs[q]?=some x:=⟨_,List.getElem?_eq_getElem (by omega)⟩
     have hzx:(xs.take (q+1)++List.replicate (nh-(q+1)) 0)[q]?=some x:=by
      rw[List.getElem?_append_left (by simp;omega),List.getElem?_take,if_pos (by omega)]
      exact hx
     have d0:=(za hm.out q).trans (zba hzx)
     have d1:=zk hm.out q
     have hqi:(q:Int)<(nh:Int):=by omega
     have h0q:(0:Int)≤(q:Int):=by omega
     have hdx:=hd x (List.mem_of_getElem? hx)
     have hsplit:xs=xs.take q++x::xs.drop (q+1):=by
      have e:=List.take_append_drop q xs
      rw[List.drop_eq_getElem_cons (by omega)] at e
      have hx2:xs[q]'(by omega)=x:=by
       have:=List.getElem?_eq_some_iff.1 hx
       exact this.2
      rw[hx2] at e
      exact e.symm
     rw[show (((q+1:Nat):Int)-1)=(q:Int) by omega]
     by_cases hxe:x=(nd:Int)-1
     ·have hall2:Hid (∀ y∈xs.drop q,y=(nd:Int)-1):=by
       show ∀ y∈xs.drop q,y=(nd:Int)-1
       rw[List.drop_eq_getElem_cons (by omega)]
       intro y hy
       rcases List.mem_cons.1 hy with e|hy
       ·have hx2:=(List.getElem?_eq_some_iff.1 hx).2
        rw[e,hx2]
        exact hxe
       ·exact hall.out y hy
      have hset:Hid ((wr.setCell ⟨mB,q,none⟩ (.int .i64 0)).heap[mB]?=some (.cells (intsC (xs.take q++List.replicate (nh-q) 0)) 3 (0,0))):=by
       show _=_
       rw[zR hm.out,QW,zcR hl (by omega)]
      subst hxe
      clear hd hl hJ hVV hM hK hK2 hall hsplit hzx hx hdx
      go_wp2_with fail
      go_quiet (fail)
      go_wp2_with fail
      go_roundw
      case rel=>exact⟨q,by omega,rfl,hset,hall2,(hb.out.drewN nq).set q _⟩
      case measure=>simp[intOf]
     ·have hb1:bump nd xs=some (xs.take q++(x+1)::List.replicate (nh-(q+1)) 0):=by
       have:=zcD (l2:=xs.drop (q+1)) hall.out hxe (xs.take q)
       rw[← hsplit,List.length_drop,hl] at this
       exact this
      have hfin:∀ W,W.heap[mB]?=some (.cells (intsC (xs.take q++(x+1)::List.replicate (nh-(q+1)) 0)) 3 (0,0))→But mB Wc W→Hid (digits nd (xs.take q++(x+1)::List.replicate (nh-(q+1)) 0)∧(xs.take q++(x+1)::List.replicate (nh-(q+1)) 0).length=nh∧J pre2 W∧qR nd nh=pre2++visit nd (nd ^ nh-val nd (xs.take q++(x+1)::List.replicate (nh-(q+1)) 0)) (xs.take q++(x+1)::List.replicate (nh-(q+1)) 0)∧W.heap[mB]?=some (.cells (intsC (xs.take q++(x+1)::List.replicate (nh-(q+1)) 0)) 3 (0,0))∧W.heap[kb]?=some (.cells #[.slice gA ng gc,.slice dA nd dc,.slice hA nh hc] 29 (0,0))) ∧
        nd ^ nh-val nd (xs.take q++(x+1)::List.replicate (nh-(q+1)) 0)<nd ^ nh-val nd xs:=fun W hWm hWb=>by
       have hvl:=zcs hd
       rw[hl] at hvl
       have hbv:=zbs h1 hd hb1
       refine⟨⟨zbt hd hb1,(Yj hb1).trans hl,HJS.out _ _ _ hJ (Nat.le_of_lt (zj hM)) hWb,?_,hWm,hWb.block hkm hK⟩,by omega⟩
       rw[hVV,zar hb1,hbv]
       congr 2
      have hset:(wr.setCell ⟨mB,q,none⟩ (.int .i64 (x+1))).heap[mB]?=some (.cells (intsC (xs.take q++(x+1)::List.replicate (nh-(q+1)) 0)) 3 (0,0)):=by
       rw[zR hm.out,QW,zcS hl (by omega)]
      have hw1:wrap64 (x+1)=x+1:=IntWalk.wrap64_in _ (by omega)
      have HFIN:=Lib.hid hfin
      have HSET:=Lib.hid hset
      have hxb:(x==(nd:Int)-1)=false:=by simpa using hxe
      have hq0:¬ (q:Int)<0:=by omega
      clear hfin hset hd hl hJ hVV hM hK hK2 hall hsplit hzx hx hdx hb1
      go_wp2_with fail
      go_quiet (fail)
      go_wp2_with fail
      gi_wp2_with fail
      have hf:=HFIN.out ((wr.drewN nq).setCell ⟨mB,q,none⟩ (.int .i64 (x+1))) HSET.out ((hb.out.drewN nq).set q (.int .i64 (x+1)))
      refine⟨⟨_,pre2,hf.1⟩,?_⟩
      rw[HRM.out,zat (w:=(wr.drewN nq).setCell ⟨mB,q,none⟩ (.int .i64 (x+1))) HSET.out]
      exact hf.2
theorem menus_in (n l kb nd nh:Nat) (gA dA hA:Option Addr) (ng gc dc hc:Nat) (hn1 : 1≤n) (J:List (List Int)→World→Prop) (w:World)
  (hkb:w.heap[kb]?=some (.cells #[.slice gA ng gc,.slice dA nd dc,.slice hA nh hc] 29 (0,0))) (h1 : 1≤nd) (hnd:nd≤1000) (hnh:nh≤1000) (hnh1 : 1≤nh)
  (hJs:∀ pre W W',J pre W→w.heap.size≤W.heap.size→But w.heap.size W W'→J pre W')
  (hY:∀ pre xs A c W,J pre W→w.heap.size<W.heap.size→L.OwnInts W (w.heap.size+1) A c xs→xs.length=nh→qC nd none xs=0→YieldAt Fence.wide (n-1) (Pf fs) l #[.slice A xs.length c] W fun e W'=>e=.returned (.bool true)∧J (pre++[xs]) W'∧W.heap.size≤W'.heap.size∧W'.heap[w.heap.size]?=W.heap[w.heap.size]?∧W'.heap[kb]?=W.heap[kb]?)
  (h0:J [] w) :
  CallsIn Fence.wide n (Pf fs) 112 #[.func (.yield l) #[] #[],.pointer (some ⟨kb,0,none⟩)] w fun e W'=>(∃ v,e=.returned v)∧J (qR nd nh) W':=
 (menus_gen n l kb nd nh gA dA hA ng gc dc hc hn1 J (fun _=>False) w hkb h1 hnd hnh hnh1 hJs (fun pre xs A c W a b d e f _=>(hY pre xs A c W a b d e f).mono fun _ _ h=>.inl h) h0).mono fun _ _ h=>⟨h.1,h.2.elim id False.elim⟩
end
end Go.Gal
