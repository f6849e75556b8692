/- Walks: MenuOf. Walks: LoadsOf (printed by gen_lof.py). Walks: CopyInts; what CopyKitchen holds. Walks: CopyKitchen (printed by gen_cpk.py). Writes into own rows of records; a kitchen of .. -/
import Derived.Test.YtlgiofglcgbjgaaM39
import Derived.Test.YtlgiofglcgbjgaaRows
import Derived.Conc.LeavingOf
import Derived.OpenShut
import Derived.ChangeSame
import Derived.Carry
namespace Go.Gal
open Go Go.Par Go.Proofs Go.RowKit
section
def zbz (nd:Nat):Option Int→List Int→Prop
 | _,[]=>True
 | p,d::l=>(0≤d∧d≤(nd:Int)-1)∧(2≤nd→p≠some d)∧zbz nd (some d) l
theorem YP {nd:Nat} {d:Int} : ∀ {xs:List Int} {p:Option Int},zbz nd p xs→(0≤d∧d≤(nd:Int)-1)→(2≤nd→(xs.getLast?.or p)≠some d)→zbz nd p (xs++[d])
 | [],p,_,h1,h2=>⟨h1,fun h=>by simpa using h2 h,trivial⟩
 | x::l,p,h,h1,h2=>by
  refine⟨h.1,h.2.1,YP h.2.2 h1 fun hn=>?_⟩
  have:=h2 hn
  rw[List.getLast?_cons] at this
  cases hl:l.getLast? with
  | none=>rw[hl] at this;simpa using this
  | some y=>rw[hl] at this;simpa using this
section
variable {fs:Array Func} [Like fs]
set_option maxRecDepth 20000 in
set_option maxHeartbeats 2000000 in
theorem menuOf_any (g:Nat) (K:Kt) (gA dA hA:Option Addr) (gc dc hc:Nat) (w:World) (hb:BagAt w g) (hd1 : 1≤K.dishes.length) (hd3:K.dishes.length≤1000) (hh:K.hauls.length≤1000) :
  Calls (Pf fs) 19 #[.pointer (some ⟨g,0,none⟩),ktV K gA dA hA gc dc hc] w fun e w'=>∃ A c xs,e=.returned (.slice A xs.length c)∧Ints w' A xs∧Kb g w w'∧xs.length=K.hauls.length∧zbz K.dishes.length none xs∧xs.length≤c:=by
 have hg:=hb.lt
 unfold ktV
 generalize K.dishes.length=nd at *
 generalize K.hauls.length=nh at *
 generalize K.goods.length=ng at *
 have HB:=Lib.hid (heap_alloc_new w (.cells #[.slice gA ng gc,.slice dA nd dc,.slice hA nh hc] 29))
 have HK0:=Lib.hid ((Kb.refl hb).grown (Grown.alloc w (.cells #[.slice gA ng gc,.slice dA nd dc,.slice hA nh hc] 29)))
 have HBG:=Lib.hid (hb.alloc (.cells #[.slice gA ng gc,.slice dA nd dc,.slice hA nh hc] 29))
 go_enter LK.func19,Try.ntmps19
 go_wp2_with fail
 go_loopw [5,6] (fun v i W=>∃ (xs:List Int) (A:Option Addr) (c:Nat),i=.int .i64 xs.length∧v=.slice A xs.length c∧Hid (L.OwnInts W (w.heap.size+1) A c xs)∧Hid (Kb g (w.alloc (.cells #[.slice gA ng gc,.slice dA nd dc,.slice hA nh hc] 29)) W)∧xs.length≤nh∧Hid (zbz nd none xs)) (fun _ i _=>nh-(intOf i).toNat)
 case atStart=>exact⟨[],none,0,rfl,rfl,L.OwnInts.nil _ _,Kb.refl HBG.out,by simp,trivial⟩
 case round =>
  obtain⟨xs,A,c,rfl,rfl,HO,HK,hxl,HM⟩:=hrel
  have hbx:=HK.out.ke.block HB.out (by omega)
  have q1:wr.cell? ⟨w.heap.size,1,none⟩=some (.slice dA nd dc):=za hbx 1
  have q2:wr.cell? ⟨w.heap.size,2,none⟩=some (.slice hA nh hc):=za hbx 2
  have HBX:=Lib.hid hbx
  clear hbx
  by_cases hlt:xs.length<nh
  ·have hli:(xs.length:Int)<(nh:Int):=by omega
   go_upto_region 6 with (go_at_call 27;refine (Jm g _ _ HK.out.bag (by omega)).mono ?_;rintro e w1 ⟨d,rfl,hdd0,hdd1,hB1⟩;have HO1:=Lib.hid (Yt HO.out HK.out.bag (Kb.of_bagged HK.out.bag hB1));have HK1:=Lib.hid (HK.out.bagged hB1);clear HO HK hB1)
   have hbx:=HK1.out.ke.block HB.out (by omega)
   have q3:w1.cell? ⟨w.heap.size,1,none⟩=some (.slice dA nd dc):=za hbx 1
   have hd2:d≤(nd:Int)-1:=by omega
   clear hbx
   go_cut [31] (fun v W=>W=w1∧v=.bool (decide (xs.getLast?=some d)))
   case first =>
    by_cases hx0:xs=[]
    ·subst hx0
     have hlt0:¬ ((0:Int)<(([]:List Int).length:Int)):=by simp
     go_wp2_with fail
     go_meet
     exact⟨rfl,rfl⟩
    ·have hl0 : 0<xs.length:=List.length_pos_iff.2 hx0
     have hlt0:(0:Int)<(xs.length:Int):=by omega
     obtain⟨b,off,rfl,hcx⟩:∃ b off,A=some ⟨b,off,none⟩∧∀ k x,xs[k]?=some x→w1.cell? ⟨b,off+k,none⟩=some (.int .i64 x):=by
      rcases (yC HO1.out).form with h|h
      ·exact absurd h hx0
      ·exact h
     have hlast:xs.getLast?=some xs[xs.length-1]:=by rw[List.getLast?_eq_getElem?,List.getElem?_eq_getElem]
     have hc:=hcx _ _ (List.getElem?_eq_getElem (show xs.length-1<xs.length by omega))
     generalize xs[xs.length-1]=y at hlast hc
     have HL:=Lib.hid hlast
     clear hlast hcx hx0
     obtain⟨n,hn⟩:∃ n,xs.length=n+1:=⟨xs.length-1,by omega⟩
     have hc':w1.cell? ⟨b,off+n,none⟩=some (.int .i64 y):=by rw[hn] at hc;exact hc
     clear hc
     go_wp2_with fail
     go_meet
     exact⟨rfl,by rw[HL.out];refine congrArg Value.bool ?_;rw[Bool.eq_iff_iff,beq_iff_eq,decide_eq_true_iff,Option.some.injEq];exact eq_comm⟩
   case rest =>
   obtain⟨rfl,rfl⟩:=hcut
   obtain⟨B,hB⟩:∃ B,B=decide (xs.getLast?=some d):=⟨_,rfl⟩
   rw[← hB]
   have HBB:=Lib.hid hB
   clear hB
   go_upto_if 31 with fail
   go_cut [7] (fun v W=>W=wc∧∃ d':Int,v=.int .i64 d'∧Hid (0≤d'∧d'≤(nd:Int)-1)∧Hid (2≤nd→xs.getLast?≠some d'))
   case first =>
    cases B with
    | true =>
     have hw:wrap64 (d+1)=d+1:=IntWalk.wrap64_in _ ⟨by omega,by omega⟩
     go_wp2_with fail
     go_meet
     refine⟨rfl,_,rfl,⟨Int.emod_nonneg _ (by omega),by have:=Int.emod_lt_of_pos (d+1) (show (0:Int)<(nd:Int) by omega);omega⟩,fun h2 h=>?_⟩
     have hl:=HBB.out
     have hl2:xs.getLast?=some d:=by simpa using hl.symm
     rw[hl2] at h
     injection h with h
     rcases Int.lt_or_le (d+1) nd with q|q
     ·rw[Int.emod_eq_of_lt (by omega) q] at h;omega
     ·rw[show d+1=nd by omega,Int.emod_self] at h;omega
    | false =>
     go_wp2_with fail
     go_meet
     exact⟨rfl,d,rfl,⟨hdd0,hd2⟩,fun _ h=>by have:=HBB.out;simp[h] at this⟩
   case rest =>
   obtain⟨rfl,d',rfl,HD,HNE⟩:=hcut
   clear HBB hdd0 hdd1 hd2 q3
   go_wp2_with (at_builtin;refine L.wpl_app_ints rfl (.tmp 38) (.tmp 40) 22 rfl (w.heap.size+1) ((like_under 22).trans Try.underlying22) inf3 A c xs rfl (qr HO1.out (Grown.alloc _ _)) (wc.heap.size+1) (some ⟨wc.heap.size,0,none⟩) 1 [d'] rfl ints1 (by simp;omega) (by have:=HK1.out.ke.size;simp at this ⊢;omega) ?_;intro A2 c2 w2 hO2 hg2 hat2)
   have hK2:Kb g (w.alloc (.cells #[.slice gA ng gc,.slice dA nd dc,.slice hA nh hc] 29)) w2:=(HK1.out.grown (Grown.alloc _ _)).row hg2 fun k hk=>⟨by have:=(zV HO1.out hk).1;simp;omega,by
    obtain⟨cs,q⟩:=yr HO1.out hk
    exact HK1.out.bag.tag q (by decide)⟩
   go_roundw
   case rel=>exact⟨xs++[d'],A2,c2,by simp,by simp,hO2,hK2,by simp;omega,YP HM.out HD.out fun h=>by simpa using HNE.out h⟩
   case measure=>simp[intOf];omega
  ·have hli:¬ (xs.length:Int)<(nh:Int):=by omega
   go_wp2_with fail
   go_ret
   exact⟨A,c,xs,rfl,yC HO.out,HK0.out.trans HK.out,by omega,HM.out,zea HO.out⟩
end
end
section
section
variable {fs:Array Func} [Like fs]
structure LSt (g:Nat) (w0 W:World) (base tp:Nat) (ls:List (List Int)) (A:Option Addr) (c:Nat):Prop where
 row:zeM W base tp A c ls
 kb:Kb g w0 W
 big:base≤W.heap.size
 top:tp≤W.heap.size
end
end
section
section
variable {fs:Array Func} [Like fs]
theorem Qh (xs:List Int) (A:Option Addr) (c:Nat) (w:World) (h:Ints w A xs) (hlen:xs.length≤1000) :
  Calls (Pf fs) 33 #[.slice A xs.length c] w fun e w'=>∃ A c',e=.returned (.slice A xs.length c')∧Grown w w'∧L.OwnInts w' w.heap.size A c' xs:=by
 have HI:=Lib.hid h
 clear h
 go_enter LK.func33,Try.ntmps33
 go_wp2_with (at_builtin;refine L.wpl_app_ints rfl (.tmp 3) (.tmp 4) 22 rfl w.heap.size ((like_under 22).trans Try.underlying22) inf3 (some ⟨w.heap.size,0,none⟩) 0 [] rfl (World.ownsRow_lit w #[] 0 (Nat.le_refl _) (by decide) (by simp)) (w.alloc (.cells #[] 3)).heap.size A c xs rfl (HI.out.grown (Grown.alloc _ _)).toB (by simp;omega) (by simp) ?_;intro A2 c2 w4 hown hg4 hat;have HG:=Lib.hid (Grown.by hg4 w (Grown.alloc w _) (fun k hk=>by cases hk;exact Nat.le_refl _));have HO:=Lib.hid hown;clear hown hg4 hat)
 go_ret
 exact⟨A2,c2,by simp,HG.out,HO.out⟩
end
structure CSt (w wr:World) (X base m tp:Nat) (gs:List Gd) (gA:Option Addr) (gc:Nat) (ds:List (List Int)) (dA:Option Addr) (dc:Nat) (hs:List Hl) (hA:Option Addr) (hc:Nat):Prop where
 box:wr.heap[X]?=some (.cells #[.slice gA gs.length gc,.slice dA ds.length dc,.slice hA hs.length hc] 29 (0,0))
 r1:GdList wr base base gA gc gs
 r2:DsList wr base tp dA dc ds
 r3:HlList wr m tp hA hc hs
 gr:Grown w wr
 low:w.heap.size≤X
 lowb:w.heap.size≤base
 mid:base≤m
 big:m≤wr.heap.size
 top:tp≤wr.heap.size
section
variable {w wr w2:World} {X base m tp:Nat} {gs:List Gd} {gA:Option Addr} {gc:Nat} {ds:List (List Int)} {dA:Option Addr} {dc:Nat} {hs:List Hl} {hA:Option Addr} {hc:Nat}
theorem CSt.to (h:CSt w wr X base m tp gs gA gc ds dA dc hs hA hc) (k:Grown wr w2):CSt w w2 X base m tp gs gA gc ds dA dc hs hA hc:=
 have:=k.size
 have h1:=h.big
 have h2:=h.top
 ⟨zf h.box k,h.r1.grown k,h.r2.grown k,h.r3.grown k,h.gr.trans k,h.low,h.lowb,h.mid,by omega,by omega⟩
theorem CSt.putBox {i:Nat} {v:Value} {row:Option Nat} {W:World} (h:CSt w wr X base m tp gs gA gc ds dA dc hs hA hc) (hgr:wr.grownBy W row) (hr:∀ k,row=some k→∃ cs t,wr.heap[k]?=some (.cells cs t (0,0))∧t≠29∧t≠91∧w.heap.size≤k) :
  W.heap[X]?=some (.cells #[.slice gA gs.length gc,.slice dA ds.length dc,.slice hA hs.length hc] 29 (0,0)) ∧
  (W.setCell ⟨X,i,none⟩ v).heap[X]?=some (.cells (#[.slice gA gs.length gc,.slice dA ds.length dc,.slice hA hs.length hc].setIfInBounds i v) 29 (0,0)) ∧
  Grown w (W.setCell ⟨X,i,none⟩ v)∧wr.heap.size≤W.heap.size:=by
 have hs:=hgr.size
 have hne:some X≠row:=fun e=>by
  obtain⟨cs,t,h1,h2,_⟩:=hr X e.symm
  exact zev h.box h1 (fun q=>h2 q.symm) rfl
 have b1:W.heap[X]?=_:=(hgr.block _ (zj h.box) hne).trans h.box
 have hg:Grown w W:=Grown.by hgr w h.gr fun k hk=>by
  obtain⟨_,_,_,_,_,h5⟩:=hr k hk
  exact h5
 have hlow:=h.low
 refine⟨b1,zR b1 _,⟨by rw[zv];exact hg.size,fun b hb=>?_,hg.os⟩,hs⟩
 rw[Below.heap_setCell _ _ _ _ (by simp only;omega)]
 exact hg.same b hb
theorem CSt.rowTag {e size:Nat} {α : Type} {enc : α→Option Addr→Nat→List Value} {inn : α→List Int} {b top c:Nat} {A:Option Addr} {xs:List α} (h:RecList e size enc inn wr b top A c xs) (h1:e≠29) (h2:e≠91) (hb:w.heap.size≤b):∀ k,(Value.slice A xs.length c).ownBlock=some k→∃ cs t,wr.heap[k]?=some (.cells cs t (0,0))∧t≠29∧t≠91∧w.heap.size≤k:=fun k hk=>by
 obtain⟨⟨cs,q⟩,q2,_⟩:=h.tag hk
 exact⟨cs,e,q,h1,h2,by omega⟩
theorem CSt.put2 {x:List Int} {A2:Option Addr} {c2:Nat} {W:World} (h:CSt w wr X base m tp gs gA gc ds dA dc [] none 0) (hR:DsList W base W.heap.size A2 c2 (ds++[x])) (hgr:wr.grownBy W (Value.slice dA ds.length dc).ownBlock) :
  (W.cell? ⟨X,1,none⟩=some (.slice dA ds.length dc)∧W.frozen? ⟨X,1,none⟩=false) ∧
  CSt w (W.setCell ⟨X,1,none⟩ (.slice A2 (ds.length+1) c2)) X base m W.heap.size gs gA gc (ds++[x]) A2 c2 [] none 0:=by
 obtain⟨k1,k2,k3,k6⟩:=h.putBox (i:=1) (v:=.slice A2 (ds.length+1) c2) hgr (CSt.rowTag h.r2 (by decide) (by decide) h.lowb)
 have ht:=h.top
 have hbg:=h.big
 refine⟨⟨za k1 1,zk k1 1⟩,by rw[List.length_append];exact k2,?_,hR.box (p:=⟨X,1,none⟩) k1 (by decide) _,RecList.nil,k3,h.low,h.lowb,h.mid,by rw[zv];omega,by rw[zv];exact Nat.le_refl _⟩
 exact (h.r1.other hgr (fun k hk=>(h.r2.tag hk).1) (by decide) (by decide)).box (p:=⟨X,1,none⟩) k1 (by decide) _
theorem CSt.put3 {x:Hl} {A2:Option Addr} {c2 tp2:Nat} {W:World} (h:CSt w wr X base m tp gs gA gc ds dA dc hs hA hc) (hd:DsList wr base tp2 dA dc ds) (hR:HlList W m W.heap.size A2 c2 (hs++[x])) (hgr:wr.grownBy W (Value.slice hA hs.length hc).ownBlock) :
  (W.cell? ⟨X,2,none⟩=some (.slice hA hs.length hc)∧W.frozen? ⟨X,2,none⟩=false) ∧
  CSt w (W.setCell ⟨X,2,none⟩ (.slice A2 (hs.length+1) c2)) X base m W.heap.size gs gA gc ds dA dc (hs++[x]) A2 c2∧DsList (W.setCell ⟨X,2,none⟩ (.slice A2 (hs.length+1) c2)) base tp2 dA dc ds:=by
 have hmid:=h.mid
 have hlb:=h.lowb
 obtain⟨k1,k2,k3,k6⟩:=h.putBox (i:=2) (v:=.slice A2 (hs.length+1) c2) hgr (CSt.rowTag h.r3 (by decide) (by decide) (by omega))
 have ht:=h.top
 have hbg:=h.big
 refine⟨⟨za k1 2,zk k1 2⟩,⟨by rw[List.length_append];exact k2,?_,?_,hR.box (p:=⟨X,2,none⟩) k1 (by decide) _,k3,h.low,h.lowb,h.mid,by rw[zv];omega,by rw[zv];exact Nat.le_refl _⟩,?_⟩
 ·exact (h.r1.other hgr (fun k hk=>(h.r3.tag hk).1) (by decide) (by decide)).box (p:=⟨X,2,none⟩) k1 (by decide) _
 ·exact ((h.r2.other hgr (fun k hk=>(h.r3.tag hk).1) (by decide) (by decide)).box (p:=⟨X,2,none⟩) k1 (by decide) _).up (by omega)
 ·exact (hd.other hgr (fun k hk=>(h.r3.tag hk).1) (by decide) (by decide)).box (p:=⟨X,2,none⟩) k1 (by decide) _
end
def jH (gs:List Gd):List Value:=gs.flatMap fun g=>encG g none 0
theorem QA:∀ gs:List Gd,(jH gs).length=gs.length*4
 | []=>rfl
 | g::l=>by
  show (encG g none 0++jH l).length=_
  rw[List.length_append,QA l]
  simp[encG]
  omega
theorem Jy:∀ (gs:List Gd) (j i:Nat) (g:Gd),i<4→gs[j]?=some g→(jH gs)[j*4+i]?=(encG g none 0)[i]?
 | [],j,i,g,_,h=>by simp at h
 | x::l,0,i,g,hi,h=>by
  cases h
  show (encG x none 0++jH l)[0*4+i]?=_
  rw[Nat.zero_mul,Nat.zero_add,List.getElem?_append_left (by simp[encG];omega)]
 | x::l,j+1,i,g,hi,h=>by
  show (encG x none 0++jH l)[(j+1)*4+i]?=_
  rw[List.getElem?_append_right (by simp[encG];omega),show (j+1)*4+i-(encG x none 0).length=j*4+i by simp[encG];omega]
  exact Jy l j i g hi (by simpa using h)
theorem GdsAt.reads {w:World} {A:Option Addr} {gs:List Gd} (h:GdsAt w A gs):L.Reads w w.heap.size 4 A gs.length (jH gs):=by
 refine⟨QA gs,fun hn=>?_⟩
 rcases h.form with rfl|⟨b,off,rfl,hc⟩
 ·simp at hn
 ·have h0:=hc 0 _ (List.getElem?_eq_getElem hn)
  refine⟨_,rfl,qw h0.1,fun j u hu=>?_⟩
  have hj:j<gs.length*4:=by have:=(List.getElem?_eq_some_iff.1 hu).1;rwa [QA] at this
  obtain⟨k1,k2,k3,k4⟩:=hc (j / 4) _ (List.getElem?_eq_getElem (show j / 4<gs.length by omega))
  have e:=Jy gs (j / 4) (j % 4) _ (Nat.mod_lt _ (by decide)) (List.getElem?_eq_getElem (show j / 4<gs.length by omega))
  rw[show j / 4*4+j % 4=j by omega,hu] at e
  have key:w.cell? ⟨b,off+j,none⟩=some u:=by
   have hm:j % 4<4:=Nat.mod_lt _ (by decide)
   have hj4:off+j=off+j / 4*4+j % 4:=by omega
   rw[hj4]
   generalize j % 4=q at *
   rcases q with _|_|_|_|q
   ·cases e;exact k1
   ·cases e;exact k2
   ·cases e;exact k3
   ·cases e;exact k4
   ·omega
  unfold Addr.add
  split
  ·rename_i hj0;subst hj0;simpa using key
  ·exact key
theorem gdCells_one {gs:List Gd} : ∀ u∈jH gs,u.oneCell'=true:=fun u hu=>by
 simp only[jH,List.mem_flatMap] at hu
 obtain⟨g,_,hu⟩:=hu
 simp[encG] at hu
 rcases hu with rfl|rfl|rfl|rfl<;>rfl
theorem GdList.of_own {w:World} {base top c:Nat} {A:Option Addr} {gs:List Gd} (h:w.ownsRow base 42 4 (.slice A gs.length c) gs.length (jH gs)):GdList w base top A c gs:=
 ⟨jH gs,fun _=>none,fun _=>0,h,fun j g hj=>⟨fun i v hv=>by
  have hi:i<4:=by have:=(List.getElem?_eq_some_iff.1 hv).1;simpa[encG] using this
  rw[Jy gs j i g hi hj]
  exact hv,L.OwnInts.nil _ _,fun k hk=>by simp at hk⟩,fun j j' k _ _ hk=>by simp at hk⟩
end
section
structure KOwn (w:World) (base:Nat) (K:Kt) (gA:Option Addr) (gc:Nat) (dA:Option Addr) (dc:Nat) (hA:Option Addr) (hc:Nat):Prop where
 ex:∃ m,base≤m∧m≤w.heap.size∧GdList w base m gA gc K.goods∧DsList w base m dA dc K.dishes∧HlList w m w.heap.size hA hc K.hauls
theorem zbT {w:World} {base base2 e size n:Nat} {v:Value} {xs:List Value} (h:w.ownsRow base e size v n xs) (hb:base2≤base):w.ownsRow base2 e size v n xs:=by
 refine⟨h.1,?_⟩
 rcases h.2 with h2|⟨g,cap,cur,hv,hg,r⟩
 ·exact .inl h2
 ·exact .inr ⟨g,cap,cur,hv,by omega,r⟩
theorem RecList.lower {α : Type} {e size:Nat} {enc : α→Option Addr→Nat→List Value} {inn : α→List Int} {w:World} {base base2 top c:Nat} {A:Option Addr} {xs:List α} (h:RecList e size enc inn w base top A c xs) (hb:base2≤base):RecList e size enc inn w base2 top A c xs:=by
 obtain⟨cells,As,cs,h1,h2,h3⟩:=h
 exact⟨cells,As,cs,zbT h1 hb,fun j x hx=>⟨(h2 j x hx).1,zbT (h2 j x hx).2.1 hb,(h2 j x hx).2.2⟩,h3⟩
section
variable {fs:Array Func} [Like fs]
set_option maxRecDepth 20000 in
set_option maxHeartbeats 8000000 in
theorem copyKitchen_any (K:Kt) (gA0 dA0 hA0:Option Addr) (gc0 dc0 hc0:Nat) (w:World) (hK:KtAt w K gA0 dA0 hA0) :
  Calls (Pf fs) 26 #[ktV K gA0 dA0 hA0 gc0 dc0 hc0] w fun e w'=>∃ gA gc dA dc hA hc,e=.returned (ktV K gA dA hA gc dc hc)∧KOwn w' w.heap.size K gA gc dA dc hA hc∧Grown w w':=by
 have hnh:=hK.nh
 have hng:=hK.ng
 have hnd:=hK.nd
 unfold ktV
 have HK:=Lib.hid (fun W (g:Grown w W)=>hK.grown g)
 clear hK
 obtain⟨gs,ds0,hs0⟩:=K
 simp only at hnh hng hnd ⊢
 obtain⟨w0,hw0⟩:∃ w0,w0=(w.alloc (.cells #[.slice gA0 gs.length gc0,.slice dA0 ds0.length dc0,.slice hA0 hs0.length hc0] 29)).alloc (.cells #[.slice none 0 0,.slice none 0 0,.slice none 0 0] 29):=⟨_,rfl⟩
 have hg0:Grown w w0:=by rw[hw0];exact (Grown.alloc _ _).trans (Grown.alloc _ _)
 have hs0z:w0.heap.size=w.heap.size+1+1:=by rw[hw0];simp
 have hbx:w0.heap[w.heap.size]?=some (.cells #[.slice gA0 gs.length gc0,.slice dA0 ds0.length dc0,.slice hA0 hs0.length hc0] 29 (0,0)):=by rw[hw0];exact zt (heap_alloc_new w _) _
 have hrs:w0.heap[w.heap.size+1]?=some (.cells #[.slice none 0 0,.slice none 0 0,.slice none 0 0] 29 (0,0)):=by
  rw[hw0]
  have:=heap_alloc_new (w.alloc (.cells #[.slice gA0 gs.length gc0,.slice dA0 ds0.length dc0,.slice hA0 hs0.length hc0] 29)) (.cells #[.slice none 0 0,.slice none 0 0,.slice none 0 0] 29)
  simpa using this
 have q0:((w0.alloc (.cells #[] 42))).cell? ⟨w.heap.size,0,none⟩=some (.slice gA0 gs.length gc0):=cell_alloc _ (za hbx 0)
 have hrd:=(((HK.out w0 hg0).grown (Grown.alloc w0 (.cells #[] 42))).goods).reads
 have hnew:(w0.alloc (.cells #[] 42)).ownsRow w0.heap.size 42 4 (.slice (some ⟨w0.heap.size,0,none⟩) 0 0) 0 []:=World.ownsRow_lit w0 #[] 0 (Nat.le_refl _) (by decide) (by simp)
 have HRD:=Lib.hid hrd
 have HNEW:=Lib.hid hnew
 have HBX:=Lib.hid hbx
 have HRS:=Lib.hid hrs
 have HW0:=Lib.hid hw0
 have HS0:=Lib.hid hs0z
 clear hrd hnew hbx hrs hw0 hs0z
 go_enter LK.func26,Try.ntmps26
 go_upto_region 1 with fail
 rw[← HW0.out]
 obtain⟨i42,in1,in2,in3,in4⟩:=info_parts inf42
 go_wp2_with (at_builtin;refine L.wpList_append_any _ rfl (.tmp 7) (.tmp 9) 25 rfl w0.heap.size 42 i42 _ 4 32 ((like_under 25).trans Try.underlying25) in1 in2 in3 in4 rfl (by decide) _ 0 [] rfl HNEW.out _ gA0 gs.length gc0 (jH gs) rfl HRD.out gdCells_one (by simp only[maxLen];omega) (by omega) (by simp) ?_;intro v' w2 hown hg2 hat;obtain⟨gA,gc,rfl⟩:=L.own_slice hown;have HOG:=Lib.hid hown;have HG2:=Lib.hid (Grown.by hg2 w0 (Grown.alloc _ _) (fun k hk=>by cases hk;exact Nat.le_refl _));clear hown hg2 hat)
 have hst:CSt w0 (w2.alloc (.cells #[.slice gA gs.length gc,.slice none 0 0,.slice none 0 0] 29)) w2.heap.size w0.heap.size w0.heap.size 0 gs gA gc [] none 0 [] none 0:=by
  have ho:w2.ownsRow w0.heap.size 42 4 (.slice gA gs.length gc) gs.length (jH gs):=by simpa using HOG.out
  have hz:=HG2.out.size
  exact⟨heap_alloc_new w2 _,(GdList.of_own ho).grown (Grown.alloc _ _),RecList.nil,RecList.nil,HG2.out.trans (Grown.alloc _ _),hz,Nat.le_refl _,Nat.le_refl _,by simp;omega,by simp⟩
 have HST:=Lib.hid hst
 have HXX:=Lib.hid (show w0.heap.size≤w2.heap.size from HG2.out.size)
 clear hst HOG HG2 HNEW HRD q0 in1 in2 in3 in4
 generalize w2.heap.size=X at *
 go_loopw [4] (fun i W=>∃ (ds:List (List Int)) (dA:Option Addr) (dc tp:Nat),i=.int .i64 ds.length∧Hid (CSt w0 W X w0.heap.size w0.heap.size tp gs gA gc ds dA dc [] none 0)∧ds.length≤ds0.length∧Hid (ds=ds0.take ds.length)) (fun i _=>ds0.length-(intOf i).toNat)
 case atStart=>exact⟨[],none,0,0,rfl,HST.out,by simp,rfl⟩
 case round =>
  obtain⟨ds,dA,dc,tp,rfl,HS,hdl,HDS⟩:=hrel
  clear HST
  have q1:wr.cell? ⟨w.heap.size,1,none⟩=some (.slice dA0 ds0.length dc0):=za (zf HBX.out HS.out.gr) 1
  by_cases hlt:ds.length<ds0.length
  ·have hli:(ds.length:Int)<(ds0.length:Int):=by omega
   obtain⟨db,dof,rfl,nA0,nc0,y1,y2,y3⟩:=(HK.out wr (hg0.trans HS.out.gr)).dishes ds.length _ (List.getElem?_eq_getElem hlt)
   have hdb:db<w.heap.size:=by
    obtain⟨db',dof',e,_,_,z1,_⟩:=(HK.out w (Grown.refl w)).dishes ds.length _ (List.getElem?_eq_getElem hlt)
    injection e with e
    injection e with e1 e2
    subst e1 e2
    exact qw z1
   have hsnoc:ds++[ds0[ds.length]]=ds0.take (ds++[ds0[ds.length]]).length:=by
    rw[List.length_append,List.length_singleton,List.take_succ_eq_append_getElem hlt]
    rw[← HDS.out]
   have HSN:=Lib.hid hsnoc
   generalize ds0[ds.length]=d at y1 y2 y3 HSN
   have y0:=za HS.out.box 1
   simp only[List.getElem?_toArray,List.getElem?_cons_zero,List.getElem?_cons_succ] at y0
   have hS:wr.drew.cell? ⟨X,1,none⟩=some (.slice dA ds.length dc)∧wr.drew.cell? ⟨w.heap.size,1,none⟩=some (.slice (some ⟨db,dof,none⟩) ds0.length dc0)∧wr.drew.cell? ⟨db,dof+ds.length,none⟩=some (.slice nA0 d.length nc0):=⟨y0,q1,y1⟩
   have HS1:=Lib.hid (show CSt w0 wr.drew X w0.heap.size w0.heap.size tp gs gA gc ds dA dc [] none 0 from HS.out.to ((Grown.refl wr).drewN 1))
   have HCI:=Lib.hid (Qh (fs:=fs) d nA0 nc0 wr.drew y2 y3)
   have HHS:=Lib.hid hS
   clear hsnoc y0 y1 y2 HS
   go_wp2_with fail
   clear q1
   refine qh (by kernel_rfl) (fun W=>W.cell? ⟨X,1,none⟩=some (.slice dA ds.length dc)∧W.cell? ⟨w.heap.size,1,none⟩=some (.slice (some ⟨db,dof,none⟩) ds0.length dc0)∧W.cell? ⟨db,dof+ds.length,none⟩=some (.slice nA0 d.length nc0)) [13] ?_
   refine zh 0 ?_ rfl ?_ ?_;case refine_2=>(intro w _;go_simp;try rfl)
   refine zx 1 ?_ rfl hS ?_ ?_;case refine_2=>(intro w hSw;(try dsimp only at hSw);go_simp;try rfl)
   refine zh 2 ?_ rfl ?_ ?_;case refine_2=>(intro w _;go_simp;try rfl)
   refine zx 3 ?_ rfl hS ?_ ?_;case refine_2=>(intro w hSw;(try dsimp only at hSw);go_simp;try rfl)
   refine zh 4 ?_ rfl ?_ ?_;case refine_2=>(intro w _;go_simp;try rfl)
   refine zh 5 ?_ rfl ?_ ?_;case refine_2=>(intro w _;go_simp;try rfl)
   refine zh 6 ?_ rfl ?_ ?_;case refine_2=>(intro w _;go_simp;try rfl)
   refine zx 7 ?_ rfl hS ?_ ?_;case refine_2=>(intro w hSw;(try dsimp only at hSw);go_simp;try rfl)
   refine zw (i:=8) rfl (by kernel_rfl) ?_
   intro Kq hKq
   go_simp
   refine HCI.out.mono ?_
   rintro e w5 ⟨nA,nc,rfl,hg5,hO5⟩
   have hS:w5.cell? ⟨X,1,none⟩=some (.slice dA ds.length dc)∧w5.cell? ⟨w.heap.size,1,none⟩=some (.slice (some ⟨db,dof,none⟩) ds0.length dc0)∧w5.cell? ⟨db,dof+ds.length,none⟩=some (.slice nA0 d.length nc0):=⟨hg5.cell HHS.out.1,hg5.cell HHS.out.2.1,hg5.cell HHS.out.2.2⟩
   have hs6:=HS1.out.to (hg5.trans (Grown.alloc w5 (.cells #[.slice nA d.length nc] 48)))
   have hn6:=heap_alloc_new w5 (.cells #[.slice nA d.length nc] 48)
   have hz5:w0.heap.size≤wr.drew.heap.size:=HS1.out.gr.size
   have hO6:L.OwnInts (w5.alloc (.cells #[.slice nA d.length nc] 48)) w0.heap.size nA nc d:=qS (qr hO5 (Grown.alloc _ _)) hz5
   have hT6:∀ k,nA.map (·.block)=some k→tp≤k:=fun k hk=>by
    have h1:=(zV hO5 (by rw[qu];exact hk)).1
    have h2:=HS1.out.top
    omega
   have HS6:=Lib.hid hs6
   have HN6:=Lib.hid hn6
   have HO6:=Lib.hid hO6
   have HT6:=Lib.hid hT6
   clear hs6 hn6 hO6 hT6 hg5 hO5 HCI HHS HS1 hz5
   refine hKq.out _ _ hS (fun _=>?_)
   clear hKq Kq
   refine zw (i:=9) rfl (by kernel_rfl) ?_
   intro Kq hKq
   go_simp
   refine hKq.out _ _ hS (fun _=>?_)
   clear hKq Kq
   refine zw (i:=10) rfl (by kernel_rfl) ?_
   intro Kq hKq
   go_simp
   have hS:(w5.alloc (.cells #[.slice nA d.length nc] 48)).cell? ⟨X,1,none⟩=some (.slice dA ds.length dc)∧(w5.alloc (.cells #[.slice nA d.length nc] 48)).cell? ⟨w.heap.size,1,none⟩=some (.slice (some ⟨db,dof,none⟩) ds0.length dc0)∧(w5.alloc (.cells #[.slice nA d.length nc] 48)).cell? ⟨db,dof+ds.length,none⟩=some (.slice nA0 d.length nc0):=⟨cell_alloc _ hS.1,cell_alloc _ hS.2.1,cell_alloc _ hS.2.2⟩
   refine hKq.out _ _ hS (fun _=>?_)
   clear hKq Kq
   refine zw (i:=11) rfl (by kernel_rfl) ?_
   intro Kq hKq
   rw[if_pos (by rfl)]
   refine zae (.tmp 20) (.tmp 29) 26 rfl ((like_under 26).trans Try.underlying26) _ 24 inf48 rfl (by decide) (by decide) rfl HS6.out.r2 w5.heap.size 1 rfl d nA nc _ 48 HN6.out rfl rfl (by intro u hu;simp[encD] at hu;subst hu;rfl) HO6.out HT6.out (by decide) (by omega) HS6.out.gr.size HS6.out.top ?_
   intro A2 c2 w9 hR9 hg9
   obtain⟨⟨x1,x2⟩,x3⟩:=HS6.out.put2 hR9 hg9
   have hlow:∀ k,(Value.slice dA ds.length dc).ownBlock=some k→w0.heap.size≤k:=fun k hk=>(HS6.out.r2.tag hk).2.1
   have hwz:=hg0.size
   have hS0:=HS0.out
   have hS:w9.cell? ⟨X,1,none⟩=some (.slice dA ds.length dc)∧w9.cell? ⟨w.heap.size,1,none⟩=some (.slice (some ⟨db,dof,none⟩) ds0.length dc0)∧w9.cell? ⟨db,dof+ds.length,none⟩=some (.slice nA0 d.length nc0):=
    ⟨x1,hg9.cell hS.2.1 (fun e=>by have:=hlow _ e.symm;simp only at this;omega),hg9.cell hS.2.2 (fun e=>by have:=hlow _ e.symm;simp only at this;omega)⟩
   have HX3:=Lib.hid x3
   clear x3 hR9 hg9 hlow hS0 HS6 HN6 HO6 HT6
   refine hKq.out _ _ hS (fun _=>?_)
   clear hKq Kq
   refine zh 12 ?_ rfl ?_ ?_;case refine_2=>(intro w _;go_simp;try rfl)
   refine qx (i:=13) rfl (by kernel_rfl) (by rfl) ?_
   intro Kq hKq
   go_simp
   refine hKq.out _ _ ?_
   clear hKq Kq
   try simp only[Act.put,List.setIfInBounds_toArray,List.set_cons_zero,List.set_cons_succ]
   refine qd (by kernel_rfl) ?_
   try simp only[Act.put,List.getElem_toArray,List.getElem_cons_succ,List.getElem_cons_zero,List.setIfInBounds_toArray,List.set_cons_zero,List.set_cons_succ]
   clear hS x1 x2
   go_wp2_with fail
   refine⟨⟨ds++[d],A2,c2,_,by simp,HX3,by simp;omega,HSN⟩,by simp[intOf];omega⟩
  ·have hdeq:ds=ds0:=by
    have:=HDS.out
    rwa [List.take_of_length_le (by omega)] at this
   subst hdeq
   clear HDS hlt hdl
   have hz0:=HS.out.gr.size
   have hst2:CSt w0 wr X w0.heap.size wr.heap.size wr.heap.size gs gA gc ds dA dc [] none 0∧DsList wr w0.heap.size wr.heap.size dA dc ds:=
    ⟨⟨HS.out.box,HS.out.r1,HS.out.r2.up HS.out.top,RecList.nil,HS.out.gr,HS.out.low,HS.out.lowb,hz0,Nat.le_refl _,Nat.le_refl _⟩,HS.out.r2.up HS.out.top⟩
   have HST2:=Lib.hid hst2
   obtain⟨we,rfl⟩:∃ we,we=wr:=⟨_,rfl⟩
   have HZ0:=Lib.hid hz0
   clear hst2 hz0 HS
   have hli:¬ (ds.length:Int)<(ds.length:Int):=by omega
   go_wp2_with fail
   go_loopw [5] (fun i W=>∃ (hs:List Hl) (hA:Option Addr) (hc tp:Nat),i=.int .i64 hs.length∧Hid (CSt w0 W X w0.heap.size we.heap.size tp gs gA gc ds dA dc hs hA hc∧DsList W w0.heap.size we.heap.size dA dc ds)∧hs.length≤hs0.length∧Hid (hs=hs0.take hs.length)) (fun i _=>hs0.length-(intOf i).toNat)
   case atStart=>exact⟨[],none,0,_,rfl,HST2.out,by simp,rfl⟩
   case round =>
    obtain⟨hs,hA,hc,tp2,rfl,HS,hhl,HHSQ⟩:=hrel
    clear HST2 q1
    have q2:wr.cell? ⟨w.heap.size,2,none⟩=some (.slice hA0 hs0.length hc0):=za (zf HBX.out HS.out.1.gr) 2
    by_cases hlt:hs.length<hs0.length
    ·have hli:(hs.length:Int)<(hs0.length:Int):=by omega
     obtain⟨hb,ho,rfl,pA0,pc0,y1,y2,y3,y4,y5⟩:=(HK.out wr (hg0.trans HS.out.1.gr)).hauls hs.length _ (List.getElem?_eq_getElem hlt)
     have hsnoc:hs++[hs0[hs.length]]=hs0.take (hs++[hs0[hs.length]]).length:=by
      rw[List.length_append,List.length_singleton,List.take_succ_eq_append_getElem hlt]
      rw[← HHSQ.out]
     have HSN:=Lib.hid hsnoc
     clear hsnoc
     generalize hs0[hs.length]=x at y1 y2 y3 y4 y5 HSN
     have HT0:=Lib.hid (heap_alloc_new wr (.cells #[.int .i64 x.hours,.int .i64 x.covers,.slice pA0 x.prices.length pc0] 46))
     have HCI:=Lib.hid (Qh (fs:=fs) x.prices pA0 pc0 (wr.alloc (.cells #[.int .i64 x.hours,.int .i64 x.covers,.slice pA0 x.prices.length pc0] 46)) (y4.grown (Grown.alloc _ _)) y5)
     clear y4
     go_upto_region 11 with (go_at_call 33;refine HCI.out.mono ?_;rintro e w5 ⟨nA,nc,rfl,hg5,hO5⟩;have HG5:=Lib.hid hg5;have HO5:=Lib.hid hO5;have hT5:=zf HT0.out hg5;have f1:=zk hT5 2;have f2:w5.cell? ⟨wr.heap.size,2,none⟩=some (.slice pA0 x.prices.length pc0):=za hT5 2;have HT5:=Lib.hid hT5;clear hT5 hg5 hO5)
     have hT6:=zR HT5.out (i:=2) (.slice nA x.prices.length nc)
     simp only[List.setIfInBounds_toArray,List.set_cons_zero,List.set_cons_succ] at hT6
     have hlw:=(zV HO5.out (k:=wr.heap.size))
     have hz5:wr.heap.size<w5.heap.size:=zj HT5.out
     have hO6:L.OwnInts (w5.setCell ⟨wr.heap.size,2,none⟩ (.slice nA x.prices.length nc)) (wr.heap.size+1) nA nc x.prices:=jc (qS HO5.out (by simp)) fun k hk _=>Below.heap_setCell _ _ _ _ (by
      have:=(zV HO5.out hk).1
      simp at this
      simp only
      omega)
     have hg6:Grown wr (w5.setCell ⟨wr.heap.size,2,none⟩ (.slice nA x.prices.length nc)):=by
      have h1:=(Grown.alloc wr (.cells #[.int .i64 x.hours,.int .i64 x.covers,.slice pA0 x.prices.length pc0] 46)).trans HG5.out
      exact⟨by rw[zv];exact h1.size,fun b hb=>by rw[Below.heap_setCell _ _ _ _ (by simp only;omega)];exact h1.same b hb,h1.os⟩
     generalize (w5.setCell ⟨wr.heap.size,2,none⟩ (.slice nA x.prices.length nc))=w6 at hT6 hO6 hg6 ⊢
     have p0:w6.cell? ⟨wr.heap.size,0,none⟩=some (.int .i64 x.hours):=za hT6 0
     have p1:w6.cell? ⟨wr.heap.size,1,none⟩=some (.int .i64 x.covers):=za hT6 1
     have p2:w6.cell? ⟨wr.heap.size,2,none⟩=some (.slice nA x.prices.length nc):=za hT6 2
     have hs6:=HS.out.1.to hg6
     have p3:w6.cell? ⟨X,2,none⟩=some (.slice hA hs.length hc):=za hs6.box 2
     have hz6:=hg6.size
     have hmw:=hs6.big
     have hmr:=HS.out.1.big
     have HS7:=Lib.hid (hs6.to (Grown.alloc w6 (.cells #[.int .i64 x.hours,.int .i64 x.covers,.slice nA x.prices.length nc] 46)))
     have HD7:=Lib.hid (HS.out.2.grown (hg6.trans (Grown.alloc w6 (.cells #[.int .i64 x.hours,.int .i64 x.covers,.slice nA x.prices.length nc] 46))))
     have HN7:=Lib.hid (heap_alloc_new w6 (.cells #[.int .i64 x.hours,.int .i64 x.covers,.slice nA x.prices.length nc] 46))
     have HO7:=Lib.hid (show L.OwnInts (w6.alloc (.cells #[.int .i64 x.hours,.int .i64 x.covers,.slice nA x.prices.length nc] 46)) we.heap.size nA nc x.prices from qS (qr hO6 (Grown.alloc _ _)) (by omega))
     have HTP:=Lib.hid (show ∀ k,nA.map (·.block)=some k→tp2≤k from fun k hk=>by
      have h1:=(zV hO6 (by rw[qu];exact hk)).1
      have h2:=HS.out.1.top
      omega)
     have HMW:=Lib.hid (show we.heap.size≤w6.heap.size by omega)
     clear hT6 hlw hz5 hO6 hg6 hs6 hz6 hmw hmr f1 f2 HT5 HO5 HG5 HCI HT0 HS y1 y2 y3 y5 q2
     go_wp2_with (at_builtin;refine jR rfl (.tmp 49) (.tmp 51) 27 rfl ((like_under 27).trans Try.underlying27) _ 40 inf46 rfl (by decide) (by decide) rfl HS7.out.r3 w6.heap.size 1 rfl x nA nc _ 46 HN7.out rfl rfl (by intro u hu;simp[encH] at hu;rcases hu with rfl|rfl|rfl<;>rfl) HO7.out HTP.out (by decide) (by omega) (by have:=HMW.out;simp;omega) HS7.out.top ?_;intro A2 c2 w9 hR9 hg9;obtain⟨⟨x1,x2⟩,x3,x4⟩:=HS7.out.put3 HD7.out hR9 hg9;have HX3:=Lib.hid (And.intro x3 x4);clear x3 x4 hR9 hg9)
     refine⟨⟨hs++[x],A2,c2,_,by simp,HX3,by simp;omega,HSN⟩,by simp[intOf];omega⟩
    ·have hheq:hs=hs0:=by
      have:=HHSQ.out
      rwa [List.take_of_length_le (by omega)] at this
     subst hheq
     clear HHSQ hlt hhl
     have hli:¬ (hs.length:Int)<(hs.length:Int):=by omega
     have hres:=zf HRS.out HS.out.1.gr
     have b0:=za HS.out.1.box 0
     have b1:=za HS.out.1.box 1
     have b2:=za HS.out.1.box 2
     simp only[List.getElem?_toArray,List.getElem?_cons_zero,List.getElem?_cons_succ] at b0 b1 b2
     have r0:=za hres 0
     have r1:=za hres 1
     have r2:=za hres 2
     simp only[List.getElem?_toArray,List.getElem?_cons_zero,List.getElem?_cons_succ] at r0 r1 r2
     have f0:=zk hres 0
     have f1:=zk hres 1
     have f2:=zk hres 2
     have HRES:=Lib.hid hres
     clear hres
     have hF:=qP HRES.out (.slice gA gs.length gc) (.slice dA ds.length dc) (.slice hA hs.length hc)
     have c0:=za hF 0
     have c1:=za hF 1
     have c2:=za hF 2
     simp only[List.getElem?_toArray,List.getElem?_cons_zero,List.getElem?_cons_succ] at c0 c1 c2
     have e1:=zR HRES.out (i:=0) (.slice gA gs.length gc)
     have e2:=zR e1 (i:=1) (.slice dA ds.length dc)
     have hz:=HS0.out
     have hfin:KOwn (((wr.setCell ⟨w.heap.size+1,0,none⟩ (.slice gA gs.length gc)).setCell ⟨w.heap.size+1,1,none⟩ (.slice dA ds.length dc)).setCell ⟨w.heap.size+1,2,none⟩ (.slice hA hs.length hc)) w.heap.size ⟨gs,ds,hs⟩ gA gc dA dc hA hc:=by
      refine⟨we.heap.size,by have:=HZ0.out;omega,by simp only[zv];exact HS.out.1.big,?_,?_,?_⟩
      ·exact ((((HS.out.1.r1.box (p:=⟨w.heap.size+1,0,none⟩) HRES.out (by decide) (.slice gA gs.length gc)).box (p:=⟨w.heap.size+1,1,none⟩) e1 (by decide) (.slice dA ds.length dc)).box (p:=⟨w.heap.size+1,2,none⟩) e2 (by decide) (.slice hA hs.length hc)).lower (by omega)).up HZ0.out
      ·exact (((HS.out.2.box (p:=⟨w.heap.size+1,0,none⟩) HRES.out (by decide) (.slice gA gs.length gc)).box (p:=⟨w.heap.size+1,1,none⟩) e1 (by decide) (.slice dA ds.length dc)).box (p:=⟨w.heap.size+1,2,none⟩) e2 (by decide) (.slice hA hs.length hc)).lower (by omega)
      ·exact (((HS.out.1.r3.box (p:=⟨w.heap.size+1,0,none⟩) HRES.out (by decide) (.slice gA gs.length gc)).box (p:=⟨w.heap.size+1,1,none⟩) e1 (by decide) (.slice dA ds.length dc)).box (p:=⟨w.heap.size+1,2,none⟩) e2 (by decide) (.slice hA hs.length hc)).up (by simp only[zv];exact HS.out.1.top)
     have hgr:Grown w (((wr.setCell ⟨w.heap.size+1,0,none⟩ (.slice gA gs.length gc)).setCell ⟨w.heap.size+1,1,none⟩ (.slice dA ds.length dc)).setCell ⟨w.heap.size+1,2,none⟩ (.slice hA hs.length hc)):=Zc (hg0.trans HS.out.1.gr) (by omega) _ _ _
     have HF:=Lib.hid (And.intro hfin hgr)
     have HC:=Lib.hid (And.intro c0 (And.intro c1 c2))
     clear hF c0 c1 c2 e1 e2 hfin hgr hz
     go_wp2_with fail
     obtain⟨c0,c1,c2⟩:=HC.out
     refine bodyPost_ret (v:=.agg #[.slice gA gs.length gc,.slice dA ds.length dc,.slice hA hs.length hc]) (by simp[results,Try.results26,go_sem,c0,c1,c2]) rfl ?_
     exact⟨gA,gc,dA,dc,hA,hc,rfl,HF.out.1,HF.out.2⟩
end
end
section
section
variable {α : Type} {e size:Nat} {enc : α→Option Addr→Nat→List Value} {inn : α→List Int} {w w':World} {base top c:Nat} {A:Option Addr} {xs:List α}
end
section
variable {w:World} {base:Nat} {K:Kt} {gA:Option Addr} {gc:Nat} {dA:Option Addr} {dc:Nat} {hA:Option Addr} {hc:Nat}
theorem KOwn.grown {w':World} (h:KOwn w base K gA gc dA dc hA hc) (g:Grown w w'):KOwn w' base K gA gc dA dc hA hc:=by
 obtain⟨m,h1,h2,h3,h4,h5⟩:=h
 exact⟨m,h1,Nat.le_trans h2 g.size,h3.grown g,h4.grown g,(h5.grown g).up g.size⟩
theorem KOwn.kt (h:KOwn w base K gA gc dA dc hA hc) (hd:∀ d∈K.dishes,d.length≤1000) (hp:∀ x∈K.hauls,x.prices.length≤1000) (n1:K.goods.length≤1000) (n2:K.dishes.length≤1000) (n3:K.hauls.length≤1000):KtAt w K gA dA hA:=by
 obtain⟨m,h1,h2,h3,h4,h5⟩:=h
 exact⟨GdList.at_ h3,DsList.at_ h4 hd,HlList.at_ h5 hp,n1,n2,n3⟩
theorem KOwn.box (h:KOwn w base K gA gc dA dc hA hc) {p:Addr} {cs:Array Value} (hp:w.heap[p.block]?=some (.cells cs 29 (0,0))) (u:Value):KOwn (w.setCell p u) base K gA gc dA dc hA hc:=by
 obtain⟨m,h1,h2,h3,h4,h5⟩:=h
 exact⟨m,h1,by rw[zv];exact h2,h3.box hp (by decide) u,h4.box hp (by decide) u,by rw[zv];exact h5.box hp (by decide) u⟩
theorem KOwn.box3 (h:KOwn w base K gA gc dA dc hA hc) {b:Nat} {x y z:Value} (hp:w.heap[b]?=some (.cells #[x,y,z] 29 (0,0))) (u1 u2 u3:Value):KOwn (((w.setCell ⟨b,0,none⟩ u1).setCell ⟨b,1,none⟩ u2).setCell ⟨b,2,none⟩ u3) base K gA gc dA dc hA hc:=by
 have e1:=zR hp (i:=0) u1
 have e2:=zR e1 (i:=1) u2
 exact ((h.box (p:=⟨b,0,none⟩) hp u1).box (p:=⟨b,1,none⟩) e1 u2).box (p:=⟨b,2,none⟩) e2 u3
end
section
variable {fs:Array Func} [Like fs]
end
end
section
def goes (D:Good1) (h:Haul1) (rest:Nat→Bool) (t n:Nat):Bool:=decide ((D.reserve:Int)≤after D h (t+n))&&rest (after D h (t+n)).toNat
structure Easier (h h':Haul1):Prop where
 hours:h.hours=h'.hours
 price:h.price=h'.price
 eaten:h.covers*h.need≤h'.covers*h'.need
inductive EasyAll:List Haul1→List Haul1→Prop
 | nil:EasyAll [] []
 | cons {h h':Haul1} {hs hs':List Haul1} : Easier h h'→EasyAll hs hs'→EasyAll (h::hs) (h'::hs')
end
section
section
variable {fs:Array Func} [LikeS fs]
end
end
section
open Go.ChangeShapes Go.WideShapes Go.ChangeAt
theorem own_knob:ownKnob Try.prog.godebug=none:=by kernel_rfl
theorem laid_out:laidOutB Try.prog=true:=by kernel_rfl
theorem cells_int:Try.prog.cellsOf 3=1:=by kernel_rfl
theorem no_globals:S.globals.size=0:=by kernel_rfl
section
variable {H:Type} {enc:TypeId×Value→H} {P:Program}
theorem post_of_below {f:Func} {s:ChangeSpec} {apart fresh handsOn again:Bool} {W W':World} {args:Array Value} {v:Value} {ds gs:List (DataW H)} {before pa pv:List MemPlace}
  (hW:DataW.Whole enc P f.params.toList s.vars apart W args.toList ds gs before)
  (hres:∀ (b:Nat) (sp:Nat→Bool) (hd:Bool),DataW.TrodAll enc P W' b sp hd f.resultTypes.toList (v.resultList f.resultTypes.size) (s.fn H (ds++gs)).results [])
  (hargs:∀ sp:Nat→Bool,(∀ p∈before,sp p.block=true)→DataW.TrodAll enc P W' 0 sp true f.params.toList args.toList (s.fn H (ds++gs)).args pa)
  (hvars:∀ sp:Nat→Bool,(∀ p∈before,sp p.block=true)→DataW.TrodVars enc P W' sp s.vars (s.fn H (ds++gs)).vars pv)
  (hps:before=pa++pv) (hb:Below W.heap.size W W')
  (hok:∀ (j:Nat) (t:TypeId) (r:Value),f.resultTypes[j]?=some t→(v.resultList f.resultTypes.size)[j]?=some r→Value.okWide P W' .any 0 t r) :
  s.post enc P f apart fresh handsOn again W args v W':=by
 have hlt:∀ p∈before,p.block<W.heap.size:=fun p hp=>hW.lt p hp
 have hold:∀ p∈before,(fun b=>decide (b<W.heap.size)) p.block=true:=fun p hp=>by simpa using hlt p hp
 refine⟨ds,gs,before,[],pa,pv,hW,hres _ _ _,hargs _ hold,hvars _ hold,World.keptBut_mono (fun p hp=>⟨hp,?_⟩) (hb.frame (·∈before)),fun _=>?_⟩
 ·rw[hps,List.mem_append] at hp
  exact Or.inr hp
 ·obtain⟨_,_,_,_,_,hz,hn⟩:=hW
  refine⟨hok,_,_,([]++pa)++pv,⟨[]++pa,pv,trodAll_append (hargs _ (fun _ _=>rfl)) (hres _ _ _),hvars _ (fun _ _=>rfl),rfl,?_,?_⟩,?_⟩
  ·intro b off hp
   have hin:MemPlace.cell b off∈before:=by rw[hps];simpa using hp
   rw[hb.frozen (hlt _ hin)]
   exact hz b off hin
  ·intro ha
   have:=hn ha
   rw[hps] at this
   simpa using this
  ·intro p hp _
   rw[hps]
   simpa using hp
end
end
end Go.Gal
