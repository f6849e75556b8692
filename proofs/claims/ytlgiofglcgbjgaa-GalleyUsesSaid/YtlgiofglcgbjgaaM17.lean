/- What the checks of the left 'all' tell of memory: a haul. What the checks of the left 'all' tell of memory: all hauls of a good, all goods. What single operations yield, continued: a .. -/
import Derived.Test.YtlgiofglcgbjgaaM16
namespace Go.Gal
open Go Go.Par Go.Proofs
section
section
variable {Q:Frame→World→Prop} {s0:St} {b:Frame} {cs:List Frame} {n:Nat} {σ : Nat→Value} {k:List Item} {w w':World} {B:Ren} {c:Code}
theorem list3 {l:List Value} (h:l.length=3):∃ x y z,l=[x,y,z]:=by
 match l,h with
 | [x,y,z],_=>exact⟨x,y,z,rfl⟩
theorem list1 {l:List Value} (h:l.length=1):∃ x,l=[x]:=by
 match l,h with
 | [x],_=>exact⟨x,rfl⟩
theorem list4 {l:List Value} (h:l.length=4):∃ x y z u,l=[x,y,z,u]:=by
 match l,h with
 | [x,y,z,u],_=>exact⟨x,y,z,u,rfl⟩
set_option maxRecDepth 4000 in
theorem On.haul {hb ho hb' mb mo mb' db do_ db' nh ch nm cm nd cd i h:Nat} (hG:Good S Q s0) (hcs:cs≠[]) (hk:b.kind≠.early) (hn : 68≤n) (hw:WRel B w w')
  (h18 : σ 18=.slice (some ⟨hb,ho,none⟩) nh ch) (rh:B hb hb') (h1 : σ 1=.slice (some ⟨mb,mo,none⟩) nm cm) (rm:B mb mb') (h17 : σ 17=.slice (some ⟨db,do_,none⟩) nd cd) (rd:B db db') (h20 : σ 20=int nd) (h24 : σ 24=int i) (h28 : σ 28=int h) (hh:h<nh) (hm:h<nm)
  (H:On S s0 b cs n σ (.code (cHaul c)::k) w) :
  ∃ D,HaulAt w (fun _=>True) hb ho mb mo db do_ nd i h D∧HaulAt w' (XR B w') hb' ho mb' mo db' do_ nd i h D∧∃ σ',Keep [3,8,9,25,26,27,29] σ σ'∧On S s0 b cs n σ' (.code c::k) w:=by
 have H1:=On.v hk H (jS (o:=ixOp 26 27 18 28) (x:=.tmp 18) (y:=.tmp 28) (i:=h) rfl u27 sz46 h18 h28 hh) rfl rfl (by omega)
 rw[qz] at H1
 obtain⟨_,⟨l,hl,rfl,hc⟩,H2⟩:=On.or hG hcs hk H1 (Yn (o:=ldOp 27 46 26) (x:=.tmp 26) (n:=3) rfl ag46 sz46 rfl (yT hw rh)) rfl rfl (by omega)
 obtain⟨x0,x1,x2,rfl⟩:=list3 hl
 have c0:w.cell? ⟨hb,ho+h*3,none⟩=some x0:=by
  have:=hc 0 x0 rfl
  rwa [qz] at this
 have c1:w.cell? ⟨hb,ho+h*3+1,none⟩=some x1:=by
  have:=hc 1 x1 rfl
  rwa [qz] at this
 have c2:w.cell? ⟨hb,ho+h*3+2,none⟩=some x2:=by
  have:=hc 2 x2 rfl
  rwa [qz] at this
 clear hc
 obtain⟨_,⟨_,e,hv⟩,H3⟩:=On.or hG hcs hk H2 (ju f46_0 ag3) rfl rfl (by omega)
 cases e
 cases hv
 obtain⟨_,⟨_,e,hv⟩,H4⟩:=On.or hG hcs hk H3 (ju f46_1 ag3) rfl rfl (by omega)
 cases e
 cases hv
 obtain⟨_,⟨_,e,hv⟩,H5⟩:=On.or hG hcs hk H4 (ju f46_2 ag22) rfl rfl (by omega)
 cases e
 cases hv
 obtain⟨hours,b0,e0,H6⟩:=On.num (x:=29) (by decide) hG hcs hk hn H5
 obtain⟨covers,b1,e1,H7⟩:=On.num (x:=3) (by decide) hG hcs hk hn H6
 have e0':x0=int hours:=e0
 have e1':x1=int covers:=e1
 subst e0' e1'
 obtain⟨_,⟨sp,np,cp,e,rfl⟩,H8⟩:=On.or hG hcs hk H7 (QP (o:=lenOp 9 22 8) (x:=.tmp 8) rfl rfl rfl u22) rfl rfl (by omega)
 have e2:x2=.slice sp np cp:=e
 clear e
 obtain⟨y,ey,hlt,H9⟩:=On.lss (x:=.tmp 24) (y:=.tmp 9) hG hcs hk hn H8 h24
 cases ey
 have hip:i<np:=by omega
 obtain⟨v2,c2',r2⟩:=ZU hw rh c2
 obtain⟨pb,po,pb',s2,rfl,rp,xp,u0,u1,u2,u3,H10⟩:=On.some_ (x:=8) (by decide) (by decide) hG hcs hk hn hw u22 sz3 H9 (v':=v2) e2 (by omega) r2
 have s2':x2=.slice (some ⟨pb,po,none⟩) np cp:=s2
 subst s2'
 have H11:=On.v hk H10 (jS (o:=ixOp 26 22 8 24) (x:=.tmp 8) (y:=.tmp 24) (i:=i) rfl u22 sz3 s2 h24 hip) rfl rfl (by omega)
 rw[qz,Nat.mul_one] at H11
 obtain⟨x3,c3,H12⟩:=On.or hG hcs hk H11 (Go.Par.run_load (o:=ldOp 8 3 26) (x:=.tmp 26) rfl ag3 rfl (yT hw rp)) rfl rfl (by omega)
 obtain⟨price,b2,e3,H13⟩:=On.num (x:=8) (by decide) hG hcs hk hn H12
 have e3':x3=int price:=e3
 subst e3'
 have H14:=On.v hk H13 (jS (o:=ixOp 26 22 1 28) (x:=.tmp 1) (y:=.tmp 28) (i:=h) rfl u22 sz3 h1 h28 hm) rfl rfl (by omega)
 rw[qz,Nat.mul_one] at H14
 obtain⟨x4,c4,H15⟩:=On.or hG hcs hk H14 (Go.Par.run_load (o:=ldOp 9 3 26) (x:=.tmp 26) rfl ag3 rfl (yT hw rm)) rfl rfl (by omega)
 obtain⟨d,b3,e4,H16⟩:=On.num (x:=9) (by decide) hG hcs hk hn H15
 have e4':x4=int d:=e4
 subst e4'
 obtain⟨y,ey,hlt,H17⟩:=On.lss (x:=.tmp 9) (y:=.tmp 20) hG hcs hk hn H16 rfl
 have ey':int nd=.int .i64 y:=h20.symm.trans ey
 cases ey'
 have hdn:d<nd:=by omega
 have H18:=On.v hk H17 (jS (o:=ixOp 26 26 17 9) (x:=.tmp 17) (y:=.tmp 9) (i:=d) rfl u26 sz48 h17 rfl hdn) rfl rfl (by omega)
 rw[qz,Nat.mul_one] at H18
 obtain⟨_,⟨l,hl,rfl,hc⟩,H19⟩:=On.or hG hcs hk H18 (Yn (o:=ldOp 27 48 26) (x:=.tmp 26) (n:=1) rfl ag48 sz48 rfl (yT hw rd)) rfl rfl (by omega)
 obtain⟨x5,rfl⟩:=list1 hl
 have c5:w.cell? ⟨db,do_+d,none⟩=some x5:=by
  have:=hc 0 x5 rfl
  rwa [qz] at this
 clear hc
 obtain⟨_,⟨_,e,hv⟩,H20⟩:=On.or hG hcs hk H19 (ju f48_0 ag22) rfl rfl (by omega)
 cases e
 cases hv
 obtain⟨_,⟨sn,nn,cn,e,rfl⟩,H21⟩:=On.or hG hcs hk H20 (QP (o:=lenOp 26 22 27) (x:=.tmp 27) rfl rfl rfl u22) rfl rfl (by omega)
 have e5:x5=.slice sn nn cn:=e
 clear e
 obtain⟨y,ey,hlt,H22⟩:=On.lss (x:=.tmp 24) (y:=.tmp 26) hG hcs hk hn H21 h24
 cases ey
 have hin:i<nn:=by omega
 obtain⟨v5,c5',r5⟩:=ZU hw rd c5
 obtain⟨nb,no,nb',s5,rfl,rn,xn,u4,u5,u6,u7,H23⟩:=On.some_ (x:=27) (by decide) (by decide) hG hcs hk hn hw u22 sz3 H22 (v':=v5) e5 (by omega) r5
 have s5':x5=.slice (some ⟨nb,no,none⟩) nn cn:=s5
 subst s5'
 have H24:=On.v hk H23 (jS (o:=ixOp 26 22 27 24) (x:=.tmp 27) (y:=.tmp 24) (i:=i) rfl u22 sz3 s5 h24 hin) rfl rfl (by omega)
 rw[qz,Nat.mul_one] at H24
 obtain⟨x6,c6,H25⟩:=On.or hG hcs hk H24 (Go.Par.run_load (o:=ldOp 27 3 26) (x:=.tmp 26) rfl ag3 rfl (yT hw rn)) rfl rfl (by omega)
 obtain⟨need,b4,e6,H26⟩:=On.num (x:=27) (by decide) hG hcs hk hn H25
 have e6':x6=int need:=e6
 subst e6'
 refine⟨⟨hours,covers,price,need⟩,⟨⟨pb,po,np,cp,d,nb,no,nn,cn,trivial,trivial,c0,c1,c2,hip,c3,c4,hdn,c5,hin,c6⟩,b0,b1,b2,b4⟩,
  ⟨⟨pb',po,np,cp,d,nb',no,nn,cn,xp,xn,jz hw rh c0,jz hw rh c1,c2',hip,jz hw rp c3,jz hw rm c4,hdn,c5',hin,jz hw rn c6⟩,b0,b1,b2,b4⟩,_,?_,H26⟩
 repeat (first|exact Keep.refl _ _|refine Keep.put ?_ (by decide) _)
end
end
section
structure Kit1 where
 gb:Nat
 go:Nat
 ng:Nat
 cg:Nat
 hb:Nat
 ho:Nat
 nh:Nat
 ch:Nat
 mb:Nat
 mo:Nat
 nm:Nat
 cm:Nat
 db:Nat
 dof:Nat
 nd:Nat
 cd:Nat
def Kit1.gs (A:Kit1):Value:=.slice (some ⟨A.gb,A.go,none⟩) A.ng A.cg
def Kit1.ds (A:Kit1):Value:=.slice (some ⟨A.db,A.dof,none⟩) A.nd A.cd
def Kit1.hs (A:Kit1):Value:=.slice (some ⟨A.hb,A.ho,none⟩) A.nh A.ch
def Kit1.m (A:Kit1):Value:=.slice (some ⟨A.mb,A.mo,none⟩) A.nm A.cm
def Kit1.k (A:Kit1):Value:=.agg #[A.gs,A.ds,A.hs]
structure KitAt (w:World) (X:Nat→Prop) (A:Kit1) (i:Nat) (D:Good1):Prop where
 blocks:X A.gb∧X A.hb∧X A.mb∧X A.db
 hi:i<A.ng
 ng:A.ng≤3
 nh:A.nh≤16
 nh1 : 1≤A.nh
 nm:A.nh≤A.nm
 room:w.cell? ⟨A.gb,A.go+i*4,none⟩=some (int D.room)
 reserve:w.cell? ⟨A.gb,A.go+i*4+1,none⟩=some (int D.reserve)
 melts:w.cell? ⟨A.gb,A.go+i*4+2,none⟩=some (int D.melts)
 start:w.cell? ⟨A.gb,A.go+i*4+3,none⟩=some (int D.start)
 room1:D.room≤255
 reserve1:D.reserve≤255
 melts1:D.melts≤255
 start1:D.start≤255
 len:D.hauls.length=A.nh
 hauls:∀ h H,D.hauls[h]?=some H→HaulAt w X A.hb A.ho A.mb A.mo A.db A.dof A.nd i h H
def Kit1.to (A:Kit1) (gb hb mb db:Nat):Kit1:={ A with gb:=gb,hb:=hb,mb:=mb,db:=db }
section
variable {Q:Frame→World→Prop} {s0:St} {b:Frame} {cs:List Frame} {n:Nat} {σ : Nat→Value} {k:List Item} {w w':World} {B:Ren} {c:Code} {A:Kit1} {gb' hb' mb' db':Nat}
structure Sl (σ : Nat→Value) (A:Kit1) (i:Nat):Prop where
 s1 : σ 1=A.m
 s16 : σ 16=A.gs
 s17 : σ 17=A.ds
 s18 : σ 18=A.hs
 s19 : σ 19=int A.ng
 s20 : σ 20=int A.nd
 s21 : σ 21=int A.nh
 s24 : σ 24=int i
theorem Sl.keep {i:Nat} {σ':Nat→Value} (h:Sl σ A i) (hk:Keep [3,8,9,25,26,27,28,29] σ σ'):Sl σ' A i:=
 ⟨(hk 1 (by decide)).trans h.s1,(hk 16 (by decide)).trans h.s16,(hk 17 (by decide)).trans h.s17,(hk 18 (by decide)).trans h.s18,(hk 19 (by decide)).trans h.s19,(hk 20 (by decide)).trans h.s20,(hk 21 (by decide)).trans h.s21,(hk 24 (by decide)).trans h.s24⟩
theorem Ym {h:Nat} (hh:h≤255):IntKind.i64.wrap ((h:Int)+1)=((h+1:Nat):Int):=by rw[IntKind.wrap_i64];omega
theorem On.hauls {i:Nat} (hG:Good S Q s0) (hcs:cs≠[]) (hk:b.kind≠.early) (hn : 68≤n) (hw:WRel B w w') (rh:B A.hb hb') (rm:B A.mb mb') (rd:B A.db db') (hnh:A.nh≤16) (hnm:A.nh≤A.nm) :
  ∀ (r h:Nat) (σ : Nat→Value),h+r=A.nh→Sl σ A i→σ 28=int h→On S s0 b cs n σ (.code rHaul::.inLoop rHaul::.inBlock 1::k) w →
   ∃ Ds:List Haul1,Ds.length=r∧(∀ j D,Ds[j]?=some D→HaulAt w (fun _=>True) A.hb A.ho A.mb A.mo A.db A.dof A.nd i (h+j) D∧HaulAt w' (XR B w') hb' A.ho mb' A.mo db' A.dof A.nd i (h+j) D)∧∃ σ',Keep [3,8,9,25,26,27,28,29] σ σ'∧On S s0 b cs n σ' k w
 | r,h,σ,hr,hs,h28,H=>by
  obtain⟨v,⟨e,he,hv⟩,H1⟩:=On.or hG hcs hk H (JM (o:=lssOp 25 (.tmp 28) (.tmp 21)) (x:=.tmp 28) (y:=.tmp 21) (.inr rfl) rfl h28) rfl rfl (by omega)
  have he':int A.nh=.int .i64 e:=hs.s21.symm.trans he
  cases he'
  have e1:¬ (BinOp.lss=BinOp.leq):=by simp
  simp only[e1,if_false] at hv
  subst hv
  have H2:=H1.seq.cond (t:=decide ((h:Int)<A.nh)) rfl
  cases r with
  | zero =>
   have hd:decide ((h:Int)<A.nh)=false:=by simp;omega
   rw[hd] at H2
   have H3:=On.exit (k':=k) H2 rfl
   exact⟨[],rfl,fun j D hj=>by simp at hj,_,(Keep.refl _ σ).put (by decide) _,H3⟩
  | succ r =>
   have hlt:h<A.nh:=by omega
   have hd:decide ((h:Int)<A.nh)=true:=by simp;omega
   rw[hd] at H2
   have H3:=On.skip H2
   have hs1:Sl (putF σ 25 (.bool true)) A i:=hs.keep ((Keep.refl _ σ).put (by decide) _)
   obtain⟨D,d1,d2,σ',k1,H4⟩:=On.haul (h:=h) (i:=i) hG hcs hk hn hw hs1.s18 rh hs1.s1 rm hs1.s17 rd hs1.s20 hs1.s24 h28 hlt (by omega) H3
   have k2:Keep [3,8,9,25,26,27,28,29] (putF σ 25 (.bool true)) σ':=k1.more (by decide)
   have h28' : σ' 28=int h:=(k1 28 (by decide)).trans h28
   have H5:=On.v hk H4 (zcv (o:=addOp 28 28) (x:=.tmp 28) (y:=I 1) (a:=h) (b:=1) rfl h28' rfl) rfl rfl (by omega)
   rw[Ym (by omega)] at H5
   have k3:=((Keep.refl [3,8,9,25,26,27,28,29] σ).put (d:=25) (by decide) (.bool true)).trans k2
   have k4:=k3.put (d:=28) (by decide) (.int .i64 ((h+1:Nat):Int))
   have H6:=H5.skip.inLoop
   obtain⟨Ds,l1,l2,σ2,k5,H7⟩:=On.hauls hG hcs hk hn hw rh rm rd hnh hnm r (h+1) _ (by omega) (hs.keep k4) rfl H6
   refine⟨D::Ds,by simp[l1],fun j E hj=>?_,σ2,k4.trans k5,H7⟩
   cases j with
   | zero =>
    simp only[List.getElem?_cons_zero,Option.some.injEq] at hj
    subst hj
    exact⟨d1,d2⟩
   | succ j =>
    simp only[List.getElem?_cons_succ] at hj
    have:=l2 j E hj
    rw[show h+1+j=h+(j+1) by omega] at this
    exact this
theorem On.good1 {i:Nat} (hG:Good S Q s0) (hcs:cs≠[]) (hk:b.kind≠.early) (hn : 68≤n) (hw:WRel B w w') (rg:B A.gb gb') (rh:B A.hb hb') (rm:B A.mb mb') (rd:B A.db db') (xg:XR B w' gb') (xh:XR B w' hb') (xm:XR B w' mb') (xd:XR B w' db') (hng:A.ng≤3) (hnh1 : 1≤A.nh) (hnh:A.nh≤16) (hnm:A.nh≤A.nm) (hi:i<A.ng) (hs:Sl σ A i)
  (H:On S s0 b cs n σ (.code (cGood c)::k) w):∃ D,KitAt w (fun _=>True) A i D∧KitAt w' (XR B w') (A.to gb' hb' mb' db') i D∧∃ σ',Keep [3,8,9,25,26,27,28,29] σ σ'∧On S s0 b cs n σ' (.code c::k) w:=by
 have H1:=On.v hk H (jS (o:=ixOp 26 25 16 24) (x:=.tmp 16) (y:=.tmp 24) (i:=i) rfl u25 sz42 hs.s16 hs.s24 hi) rfl rfl (by omega)
 rw[qz] at H1
 obtain⟨_,⟨l,hl,rfl,hc⟩,H2⟩:=On.or hG hcs hk H1 (Yn (o:=ldOp 27 42 26) (x:=.tmp 26) (n:=4) rfl ag42 sz42 rfl (yT hw rg)) rfl rfl (by omega)
 obtain⟨x0,x1,x2,x3,rfl⟩:=list4 hl
 have c0:w.cell? ⟨A.gb,A.go+i*4,none⟩=some x0:=by
  have:=hc 0 x0 rfl
  rwa [qz] at this
 have c1:w.cell? ⟨A.gb,A.go+i*4+1,none⟩=some x1:=by
  have:=hc 1 x1 rfl
  rwa [qz] at this
 have c2:w.cell? ⟨A.gb,A.go+i*4+2,none⟩=some x2:=by
  have:=hc 2 x2 rfl
  rwa [qz] at this
 have c3:w.cell? ⟨A.gb,A.go+i*4+3,none⟩=some x3:=by
  have:=hc 3 x3 rfl
  rwa [qz] at this
 clear hc
 obtain⟨_,⟨_,e,hv⟩,H3⟩:=On.or hG hcs hk H2 (ju f42_0 ag3) rfl rfl (by omega)
 cases e
 cases hv
 obtain⟨_,⟨_,e,hv⟩,H4⟩:=On.or hG hcs hk H3 (ju f42_1 ag3) rfl rfl (by omega)
 cases e
 cases hv
 obtain⟨_,⟨_,e,hv⟩,H5⟩:=On.or hG hcs hk H4 (ju f42_2 ag3) rfl rfl (by omega)
 cases e
 cases hv
 obtain⟨_,⟨_,e,hv⟩,H6⟩:=On.or hG hcs hk H5 (ju f42_3 ag3) rfl rfl (by omega)
 cases e
 cases hv
 obtain⟨room,b0,e0,H7⟩:=On.num (x:=28) (by decide) hG hcs hk hn H6
 obtain⟨reserve,b1,e1,H8⟩:=On.num (x:=29) (by decide) hG hcs hk hn H7
 obtain⟨melts,b2,e2,H9⟩:=On.num (x:=3) (by decide) hG hcs hk hn H8
 obtain⟨start,b3,e3,H10⟩:=On.num (x:=8) (by decide) hG hcs hk hn H9
 have e0':x0=int room:=e0
 have e1':x1=int reserve:=e1
 have e2':x2=int melts:=e2
 have e3':x3=int start:=e3
 subst e0' e1' e2' e3'
 have H11:=On.v hk H10 (ZB (o:=mvOp 28 (I 0)) (x:=I 0) rfl) rfl rfl (by omega)
 have H12:=H11.seq.block.loop
 generalize hσ : putF _ 28 (evF _ (I 0))=σ2 at H12
 have k1:Keep [3,8,9,25,26,27,28,29] σ σ2:=by
  rw[← hσ]
  repeat (first|exact Keep.refl _ _|refine Keep.put ?_ (by decide) _)
 have h28 : σ2 28=int 0:=by rw[← hσ];rfl
 obtain⟨Ds,l1,l2,σ3,k2,H13⟩:=On.hauls hG hcs hk hn hw rh rm rd hnh hnm A.nh 0 σ2 (by omega) (hs.keep k1) h28 H12
 refine⟨⟨room,reserve,melts,start,Ds⟩,⟨⟨trivial,trivial,trivial,trivial⟩,hi,hng,hnh,hnh1,hnm,c0,c1,c2,c3,b0,b1,b2,b3,l1,fun h E hh=>?_⟩,⟨⟨xg,xh,xm,xd⟩,hi,hng,hnh,hnh1,hnm,jz hw rg c0,jz hw rg c1,jz hw rg c2,jz hw rg c3,b0,b1,b2,b3,l1,fun h E hh=>?_⟩,σ3,k1.trans k2,H13⟩
 ·have:=(l2 h E hh).1
  rwa [Nat.zero_add] at this
 ·have:=(l2 h E hh).2
  rwa [Nat.zero_add] at this
theorem On.goods (hG:Good S Q s0) (hcs:cs≠[]) (hk:b.kind≠.early) (hn : 68≤n) (hw:WRel B w w') (rg:B A.gb gb') (rh:B A.hb hb') (rm:B A.mb mb') (rd:B A.db db') (xg:XR B w' gb') (xh:XR B w' hb') (xm:XR B w' mb') (xd:XR B w' db') (hng:A.ng≤3) (hnh1 : 1≤A.nh) (hnh:A.nh≤16) (hnm:A.nh≤A.nm) :
  ∀ (r i:Nat) (σ : Nat→Value),i+r=A.ng→Sl σ A i→On S s0 b cs n σ (.code rGood::.inLoop rGood::.inBlock 0::k) w →
   ∃ Ds:List Good1,Ds.length=r∧(∀ j D,Ds[j]?=some D→KitAt w (fun _=>True) A (i+j) D∧KitAt w' (XR B w') (A.to gb' hb' mb' db') (i+j) D)∧∃ σ',Keep [3,8,9,24,25,26,27,28,29] σ σ'∧On S s0 b cs n σ' k w
 | r,i,σ,hr,hs,H=>by
  obtain⟨v,⟨e,he,hv⟩,H1⟩:=On.or hG hcs hk H (JM (o:=lssOp 25 (.tmp 24) (.tmp 19)) (x:=.tmp 24) (y:=.tmp 19) (.inr rfl) rfl hs.s24) rfl rfl (by omega)
  have he':int A.ng=.int .i64 e:=hs.s19.symm.trans he
  cases he'
  have e1:¬ (BinOp.lss=BinOp.leq):=by simp
  simp only[e1,if_false] at hv
  subst hv
  have H2:=H1.seq.cond (t:=decide ((i:Int)<A.ng)) rfl
  cases r with
  | zero =>
   have hd:decide ((i:Int)<A.ng)=false:=by simp;omega
   rw[hd] at H2
   have H3:=On.exit (k':=k) H2 rfl
   exact⟨[],rfl,fun j D hj=>by simp at hj,_,(Keep.refl _ σ).put (by decide) _,H3⟩
  | succ r =>
   have hlt:i<A.ng:=by omega
   have hd:decide ((i:Int)<A.ng)=true:=by simp;omega
   rw[hd] at H2
   have H3:=On.skip H2
   have hs1:Sl (putF σ 25 (.bool true)) A i:=hs.keep ((Keep.refl _ σ).put (by decide) _)
   obtain⟨D,d1,d2,σ',k1,H4⟩:=On.good1 (i:=i) hG hcs hk hn hw rg rh rm rd xg xh xm xd hng hnh1 hnh hnm hlt hs1 H3
   have hs2:=hs1.keep k1
   have H5:=On.v hk H4 (zcv (o:=addOp 24 24) (x:=.tmp 24) (y:=I 1) (a:=i) (b:=1) rfl hs2.s24 rfl) rfl rfl (by omega)
   rw[Ym (by omega)] at H5
   have k3:=((Keep.refl [3,8,9,24,25,26,27,28,29] σ).put (d:=25) (by decide) (.bool true)).trans (k1.more (by decide))
   have k4:=k3.put (d:=24) (by decide) (.int .i64 ((i+1:Nat):Int))
   have hs3:Sl (putF σ' 24 (.int .i64 ((i+1:Nat):Int))) A (i+1):=⟨hs2.s1,hs2.s16,hs2.s17,hs2.s18,hs2.s19,hs2.s20,hs2.s21,rfl⟩
   have H6:=H5.skip.inLoop
   obtain⟨Ds,l1,l2,σ2,k5,H7⟩:=On.goods hG hcs hk hn hw rg rh rm rd xg xh xm xd hng hnh1 hnh hnm r (i+1) _ (by omega) hs3 H6
   refine⟨D::Ds,by simp[l1],fun j E hj=>?_,σ2,k4.trans k5,H7⟩
   cases j with
   | zero =>
    simp only[List.getElem?_cons_zero,Option.some.injEq] at hj
    subst hj
    exact⟨d1,d2⟩
   | succ j =>
    simp only[List.getElem?_cons_succ] at hj
    have:=l2 j E hj
    rw[show i+1+j=i+(j+1) by omega] at this
    exact this
end
end
end Go.Gal
namespace Go.Par
open Go
section
section
variable {P:Program} {σ : Nat→Value} {o:Oper} {w:World}
theorem run_slice1 {ty e n:Nat} {x:Operand} {z:Value} (ho:o.op=.buildSlice ty 1 #[(0,x)]) (ht:P.underlying ty=some (.slice e)) (hs:∀ u,(sizeOf e).run P u=.ok n u) (hz:∀ u,(zeroValue e).run P u=.ok z u) (h0 : 0<n) (hn:n≤1000) :
  ((evF σ x).cells.size=n∧∃ X,RunV P σ o w (.slice (some ⟨w.heap.size,0,none⟩) 1 1) (w.alloc (.cells X e)))∨RunB P σ o w:=by
 have hu:∀ u:World,(execOp (evF σ) o).run P u=((do pure (.value (← Instr.buildSlice ty 1 #[(0,evF σ x)]))):Sem Go.Next).run P u:=fun u=>by
  have hm:(#[(0,x)]:Array (Nat×Operand)).map (fun (i,x)=>(i,evF σ x))=#[(0,evF σ x)]:=by simp
  unfold execOp
  simp only[ho,hm]
 have g1:¬ (1*n > 2 ^ 24):=by omega
 have g2:¬ (1*n=0):=by omega
 by_cases h:(evF σ x).cells.size=n
 ·refine .inl ⟨h,Array.foldl (fun cs (c,j)=>cs.setIfInBounds (0+j) c) ((Array.range (1*n)).map (z.cells[· % z.cells.size]!)) (evF σ x).cells.zipIdx,fun t _=>?_⟩
  rw[hu]
  unfold Instr.buildSlice
  have hf:∀ cells:Array Value,cells.size=n→Instr.fill (fun i=>some (i*n,n)) cells [(0,evF σ x)]=some ((evF σ x).cells.zipIdx.foldl (fun cs (c,j)=>cs.setIfInBounds (0+j) c) cells):=fun cells hc=>by
   simp[Instr.fill,h,hc]
  simp only[Sem.run_bind,run_underlying ht,hs,Result.andThen_ok,g1,g2,if_false,hz]
  rw[show ∀ u:World,Sem.run P (pure z.cells) u=.ok z.cells u from fun _=>rfl]
  simp only[Result.andThen_ok]
  rw[hf _ (by simp)]
  rfl
 ·refine .inr fun t=>⟨.stuck "buildSlice: a part of the wrong size",{ w with tape:=t },?_,trivial⟩
  rw[hu]
  unfold Instr.buildSlice
  have hf:∀ cells:Array Value,Instr.fill (fun i=>some (i*n,n)) cells [(0,evF σ x)]=none:=fun cells=>by
   simp[Instr.fill,h]
  simp only[Sem.run_bind,run_underlying ht,hs,Result.andThen_ok,g1,g2,if_false,hz]
  rw[show ∀ u:World,Sem.run P (pure z.cells) u=.ok z.cells u from fun _=>rfl]
  simp only[Result.andThen_ok]
  rw[hf]
  rfl
theorem run_load_v {x:Operand} {a:Addr} {ty:TypeId} {v:Value} (ho:o.op=.load ty x) (ha:∀ u,(isAgg ty).run P u=.ok false u) (hx:evF σ x=.pointer (some a)) (hc:w.cell? a=some v):RunV P σ o w v w:=jG fun u hh=>by
 have hu:(execOp (evF σ) o).run P u=((do pure (.value (← load a))):Sem Go.Next).run P u:=by
  unfold execOp
  simp only[ho,hx]
  simp[go_sem,Instr.loadAt,Instr.sureAddr,loadVar,ha]
 rw[hu,Sem.run_bind,Yp hc hh]
 rfl
def QH (v:Value):Prop:=∀ c,v≠.agg c∧v≠.tuple c
theorem run_put {u:World} {a:Addr} {x v:Value} (hv:QH v) (hc:u.cell? a=some x) (hf:u.frozen? a=false):(store a v).run P u=.ok () (u.setCell a v):=by
 unfold store
 cases v with
 | agg c=>exact absurd rfl (hv c).1
 | tuple c=>exact absurd rfl (hv c).2
 | _=>simp only[Sem.run,hc,hf,Bool.false_eq_true,if_false]
theorem run_store3 {x y:Operand} {C off:Nat} {ty:TypeId} {a b c:Value} {cells:Array Value} {t:TypeId} (ho:o.op=.store ty x y) (hz:∀ u,(sizeOf ty).run P u=.ok 3 u) (hx:evF σ x=.pointer (some ⟨C,off,none⟩)) (hv:evF σ y=.agg #[a,b,c]) (ha:QH a) (hb:QH b) (hc:QH c)
  (hrow:w.heap[C]?=some (.cells cells t (0,0))) (hfit:off+3≤cells.size):RunU P σ o w (((w.setCell ⟨C,off,none⟩ a).setCell ⟨C,off+1,none⟩ b).setCell ⟨C,off+2,none⟩ c):=fun tp _=>by
 have rowset:∀ (u:World) (cs:Array Value) (p:Nat) (v:Value),u.heap[C]?=some (.cells cs t (0,0))→(u.setCell ⟨C,p,none⟩ v).heap[C]?=some (.cells (cs.setIfInBounds p v) t (0,0)):=fun u cs p v h=>by
  unfold World.setCell
  simp[Array.getElem?_modify,h]
 have cel:∀ (u:World) (cs:Array Value) (p:Nat),u.heap[C]?=some (.cells cs t (0,0))→p<cs.size→∃ v,u.cell? ⟨C,p,none⟩=some v:=fun u cs p h hp=>by
  simp only[World.cell?,h,Option.isSome_none,Bool.false_eq_true,if_false]
  exact⟨_,Array.getElem?_eq_getElem hp⟩
 have fro:∀ (u:World) (cs:Array Value) (p:Nat),u.heap[C]?=some (.cells cs t (0,0))→u.frozen? ⟨C,p,none⟩=false:=fun u cs p h=>by simp[World.frozen?,h]
 let u0:World:={ w with tape:=tp }
 have r0:u0.heap[C]?=some (.cells cells t (0,0)):=hrow
 have r1:=rowset u0 cells off a r0
 have r2:=rowset (u0.setCell ⟨C,off,none⟩ a) _ (off+1) b r1
 obtain⟨_,c0⟩:=cel u0 cells off r0 (by omega)
 obtain⟨_,c1⟩:=cel _ _ (off+1) r1 (by simp;omega)
 obtain⟨_,c2⟩:=cel _ _ (off+2) r2 (by simp;omega)
 have ad:∀ p,(⟨C,off,none⟩:Addr).add p=⟨C,off+p,none⟩:=fun p=>by
  unfold Addr.add
  split
  ·rename_i h
   subst h
   rfl
  ·rfl
 have s0:=run_put (P:=P) ha c0 (fro _ _ _ r0)
 have s1:=run_put (P:=P) hb c1 (fro _ _ _ r1)
 have s2:=run_put (P:=P) hc c2 (fro _ _ _ r2)
 have hu:(execOp (evF σ) o).run P u0=((do storeCells ⟨C,off,none⟩ [a,b,c];pure .skip):Sem Go.Next).run P u0:=by
  unfold execOp
  simp only[ho,hx,hv,Instr.storeAt,Instr.sureAddr,storeVar]
  simp[go_sem,hz,Value.cells]
  rw[s0]
  simp only[Result.andThen_ok]
  rw[s1]
  simp only[Result.andThen_ok]
 show (execOp (evF σ) o).run P u0=_
 rw[hu]
 simp only[storeCells,ad,Nat.add_zero,Sem.run_bind]
 rw[s0]
 simp only[Result.andThen_ok]
 rw[s1]
 simp only[Result.andThen_ok]
 rw[s2]
 rfl
theorem WRel.allocL {B:Ren} {w w':World} (h:WRel B w w') (o:Obj):WRel B (w.alloc o) w':=by
 refine⟨fun r r' hr=>?_,h.os,?_,h.big'⟩
 ·obtain⟨x,x',h1,h2,h3⟩:=h.objs r r' hr
  refine⟨x,x',?_,h2,h3⟩
  unfold World.alloc
  have hlt:=(Array.getElem?_eq_some_iff.1 h1).1
  rw[Array.getElem?_push_lt hlt]
  rw[Array.getElem?_eq_getElem hlt] at h1
  exact h1
 ·have:=h.big
  unfold World.alloc
  simp
  omega
theorem cell_alloc {w:World} {o:Obj} {a:Addr} {v:Value} (h:w.cell? a=some v):(w.alloc o).cell? a=some v:=by
 unfold World.cell? at h ⊢
 split at h
 ·rename_i c t m hx
  have hlt:=(Array.getElem?_eq_some_iff.1 hx).1
  have e:(w.alloc o).heap[a.block]?=some (.cells c t m):=by
   unfold World.alloc
   rw[Array.getElem?_push_lt hlt]
   rw[Array.getElem?_eq_getElem hlt] at hx
   exact hx
  rw[e]
  exact h
 ·cases h
end
end
end Go.Par
namespace Go.Gal
open Go Go.Par Go.Proofs
section
theorem u58:S.underlying 58=some (.slice 29):=by kernel_rfl
theorem sz29:∀ u,(sizeOf 29).run S u=.ok 3 u:=sz 29 3 (by kernel_rfl)
theorem zero_of (t:Nat) (h:((S.info? t).bind (·.zero)).isSome=true):∃ z,∀ u,(zeroValue t).run S u=.ok z u:=by
 obtain⟨z,hz⟩:=Option.isSome_iff_exists.1 h
 obtain⟨i,hi,hz⟩:=Option.bind_eq_some_iff.1 hz
 have hi':Tables.info? (Program.toTables S) t=some i:=hi
 exact⟨z,fun u=>by simp[zeroValue,typeInfo,go_sem,hi',hz]⟩
theorem zero29:∃ z,∀ u,(zeroValue 29).run S u=.ok z u:=zero_of 29 (by kernel_rfl)
section
variable {Q:Frame→World→Prop} {s0:St} {b:Frame} {cs:List Frame} {n:Nat} {σ : Nat→Value} {k:List Item} {w w':World} {B:Ren} {c:Code}
theorem agg3 {v:Value} (h:v.cells.size=3):∃ x y z,v=.agg #[x,y,z]:=by
 cases v with
 | agg cs =>
  obtain⟨l⟩:=cs
  have hl:l.length=3:=h
  obtain⟨x,y,z,rfl⟩:=list3 hl
  exact⟨x,y,z,rfl⟩
 | _=>simp[Value.cells] at h
set_option maxRecDepth 4000 in
theorem On.all {v0 v1:Value} (hG:Good S Q s0) (hcs:cs≠[]) (hk:b.kind≠.early) (hn : 68≤n) (hw:WRel B w w') (r0:VRel B (σ 0) v0) (r1:VRel B (σ 1) v1) (H:On S s0 b cs n σ (.code (cAll c)::k) w) :
  ∃ A gb' hb' mb' db' X,σ 0=A.k∧σ 1=A.m∧v0=(A.to gb' hb' mb' db').k∧v1=(A.to gb' hb' mb' db').m∧B A.gb gb'∧B A.hb hb'∧B A.mb mb'∧B A.db db'∧(XR B w' gb'∧XR B w' hb'∧XR B w' mb'∧XR B w' db') ∧
   (∃ Ds:List Good1,Ds.length=A.ng∧∀ i D,Ds[i]?=some D→KitAt (w.alloc (.cells X 29)) (fun _=>True) A i D∧KitAt w' (XR B w') (A.to gb' hb' mb' db') i D)∧A.ng≤3∧1≤A.ng ∧
   ∃ σ',Keep [3,8,9,16,17,18,19,20,21,22,23,24,25,26,27,28,29] σ σ'∧σ' 19=int A.ng∧On S s0 b cs n σ' (.code c::k) (w.alloc (.cells X 29)):=by
 obtain⟨z,hz⟩:=zero29
 rcases run_slice1 (P:=S) (σ:=σ) (w:=w) (o:=ov 23 (.buildSlice 58 1 #[(0,.tmp 0)])) (x:=.tmp 0) rfl u58 sz29 hz (by omega) (by omega) with ⟨h3,X,hr⟩|hb
 rotate_left
 ·exact (H.notBad hG hcs hk rfl hb).elim
 obtain⟨ga,da,ha,e0⟩:=agg3 h3
 have e0' : σ 0=.agg #[ga,da,ha]:=e0
 clear e0 h3
 have H1:=H.val (w':=w.alloc (.cells X 29)) hk rfl (d:=23) rfl (by omega) ⟨Nat.le_refl _,fun _ _=>rfl⟩ hr
 have hw1:=hw.allocL (.cells X 29)
 obtain⟨_,⟨_,e,hv⟩,H2⟩:=On.or hG hcs hk H1 (ju f29_0 ag25) rfl rfl (by omega)
 have e:=e0'.symm.trans e
 cases e
 cases hv
 obtain⟨_,⟨_,e,hv⟩,H3⟩:=On.or hG hcs hk H2 (ju f29_1 ag26) rfl rfl (by omega)
 have e:=e0'.symm.trans e
 cases e
 cases hv
 obtain⟨_,⟨_,e,hv⟩,H4⟩:=On.or hG hcs hk H3 (ju f29_2 ag27) rfl rfl (by omega)
 have e:=e0'.symm.trans e
 cases e
 cases hv
 obtain⟨_,⟨gs,ng,cg,e,rfl⟩,H5⟩:=On.or hG hcs hk H4 (QP (o:=lenOp 19 25 16) (x:=.tmp 16) rfl rfl rfl u25) rfl rfl (by omega)
 have eg:ga=.slice gs ng cg:=e
 obtain⟨_,⟨ds,nd,cd,e,rfl⟩,H6⟩:=On.or hG hcs hk H5 (QP (o:=lenOp 20 26 17) (x:=.tmp 17) rfl rfl rfl u26) rfl rfl (by omega)
 have ed:da=.slice ds nd cd:=e
 obtain⟨_,⟨hs,nh,ch,e,rfl⟩,H7⟩:=On.or hG hcs hk H6 (QP (o:=lenOp 21 27 18) (x:=.tmp 18) rfl rfl rfl u27) rfl rfl (by omega)
 have eh:ha=.slice hs nh ch:=e
 obtain⟨_,⟨ms,nm,cm,e,rfl⟩,H8⟩:=On.or hG hcs hk H7 (QP (o:=lenOp 22 22 1) (x:=.tmp 1) rfl rfl rfl u22) rfl rfl (by omega)
 have em : σ 1=.slice ms nm cm:=e
 clear e
 subst eg ed eh
 obtain⟨y,ey,l1,H9⟩:=On.leq (x:=.tmp 19) (y:=I 3) hG hcs hk hn H8 rfl
 cases ey
 obtain⟨y,ey,l2,H10⟩:=On.leq (x:=.tmp 21) (y:=I 16) hG hcs hk hn H9 rfl
 cases ey
 obtain⟨y,ey,l3,H11⟩:=On.leq (x:=.tmp 21) (y:=.tmp 22) hG hcs hk hn H10 rfl
 cases ey
 obtain⟨y,ey,l4,H12⟩:=On.leq (x:=I 1) (y:=.tmp 19) hG hcs hk hn H11 rfl
 cases ey
 obtain⟨y,ey,l5,H13⟩:=On.leq (x:=I 1) (y:=.tmp 20) hG hcs hk hn H12 rfl
 cases ey
 obtain⟨y,ey,l6,H14⟩:=On.leq (x:=I 1) (y:=.tmp 21) hG hcs hk hn H13 rfl
 cases ey
 rw[e0'] at r0
 rw[em] at r1
 cases r0 with
 | @agg _ cs' hsz hel =>
 obtain⟨l'⟩:=cs'
 have hl':l'.length=3:=hsz
 obtain⟨ga',da',ha',rfl⟩:=list3 hl'
 have rg:=hel 0 _ _ rfl rfl
 have rd:=hel 1 _ _ rfl rfl
 have rh:=hel 2 _ _ rfl rfl
 clear hel hsz
 obtain⟨gb,go,gb',s16,rfl,bg,xg,u0,u1,u2,u3,H15⟩:=On.some_ (x:=16) (by decide) (by decide) hG hcs hk hn hw1 u25 sz42 H14 (v':=ga') rfl (by omega) rg
 obtain⟨db,dof,db',s17,rfl,bd,xd,u4,u5,u6,u7,H16⟩:=On.some_ (x:=17) (by decide) (by decide) hG hcs hk hn hw1 u26 sz48 H15 (v':=da') rfl (by omega) rd
 obtain⟨hb,ho,hb',s18,rfl,bh,xh,u8,u9,u10,u11,H17⟩:=On.some_ (x:=18) (by decide) (by decide) hG hcs hk hn hw1 u27 sz46 H16 (v':=ha') rfl (by omega) rh
 have r1':=r1
 rw[← em] at r1'
 obtain⟨mb,mo,mb',s1,rfl,bm,xm,u12,u13,u14,u15,H18⟩:=On.some_ (x:=1) (by decide) (by decide) hG hcs hk hn hw1 u22 sz3 H17 (v':=v1) em (by omega) r1'
 have s16':Value.slice gs ng cg=.slice (some ⟨gb,go,none⟩) ng cg:=s16
 have s17':Value.slice ds nd cd=.slice (some ⟨db,dof,none⟩) nd cd:=s17
 have s18':Value.slice hs nh ch=.slice (some ⟨hb,ho,none⟩) nh ch:=s18
 have s1' : σ 1=.slice (some ⟨mb,mo,none⟩) nm cm:=s1
 clear s16 s17 s18 s1
 cases s16'
 cases s17'
 cases s18'
 have H19:=On.v hk H18 (ZB (o:=mvOp 24 (I 0)) (x:=I 0) rfl) rfl rfl (by omega)
 have H20:=H19.seq.block.loop
 generalize hσ : putF _ 24 (evF _ (I 0))=σ2 at H20
 have k1:Keep [3,8,9,16,17,18,19,20,21,22,23,24,25,26,27,28,29] σ σ2:=by
  rw[← hσ]
  repeat (first|exact Keep.refl _ _|refine Keep.put ?_ (by decide) _)
 have hs2:Sl σ2 ⟨gb,go,ng,cg,hb,ho,nh,ch,mb,mo,nm,cm,db,dof,nd,cd⟩ 0:=by
  rw[← hσ]
  exact⟨s1',rfl,rfl,rfl,rfl,rfl,rfl,rfl⟩
 obtain⟨Ds,d1,d2,σ3,k2,H21⟩:=On.goods (A:=⟨gb,go,ng,cg,hb,ho,nh,ch,mb,mo,nm,cm,db,dof,nd,cd⟩) hG hcs hk hn hw1 bg bh bm bd xg xh xm xd (by show ng≤3;omega) (by show 1≤nh;omega) (by show nh≤16;omega) (by show nh≤nm;omega) ng 0 σ2 (by show 0+ng=ng;omega) hs2 H20
 refine⟨⟨gb,go,ng,cg,hb,ho,nh,ch,mb,mo,nm,cm,db,dof,nd,cd⟩,gb',hb',mb',db',X,e0',s1',rfl,rfl,bg,bh,bm,bd,⟨xg,xh,xm,xd⟩,⟨Ds,d1,fun i D hi=>?_⟩,by show ng≤3;omega,by show 1≤ng;omega,σ3,k1.trans (k2.more (by decide)),(k2 19 (by decide)).trans hs2.s19,H21⟩
 have:=d2 i D hi
 rwa [Nat.zero_add] at this
end
end
section
abbrev link:Go.Conc.Lib.WgLink:={ add:=104,done:=106,wait:=108,relMerge:=114,disable:=115,enable:=116,inBubble:=117,associate:=118,fatal:=119,uOr:=120,uAdd:=121,raceRead:=122,uLoad:=123,uStore:=124,disassociate:=125,semrelease:=126,acquire:=128,isAssociated:=129,uCas:=130,raceWrite:=131,semacquire:=132,orU64:=135,addU64:=136,loadU64:=137,storeU64:=138,casU64:=139,tWgP:=147,tUP:=149,tAssoc:=150,tWg:=138,tAU:=135,tU64:=89,tUint:=92,tU32:=136,tPU32:=154,tPAU:=168,tPU64:=170,tNoCopy:=131,tANoCopy:=132,tAlign64:=133 }
theorem wgLib:Go.Conc.Lib.WgLib Try.prog link:=
 ⟨Try.func104,Try.func106,Try.func108,Try.func114,Try.func115,Try.func116,Try.func117,Try.func118,Try.func119,Try.func120,Try.func121,Try.func122,Try.func123,Try.func124,Try.func125,Try.func126,Try.func128,Try.func129,Try.func130,Try.func131,Try.func132,Try.func135,Try.func136,Try.func137,Try.func138,Try.func139,Try.underlying147,Try.runUnderlying147,Try.sizeOf147,Try.isAgg147,Try.zeroValue147,Try.underlying149,Try.runUnderlying149,Try.sizeOf149,Try.isAgg149,Try.zeroValue149,Try.underlying150,Try.runUnderlying150,Try.sizeOf150,Try.isAgg150,Try.zeroValue150,Try.underlying138,Try.runUnderlying138,Try.sizeOf138,Try.isAgg138,Try.zeroValue138,Try.underlying135,Try.runUnderlying135,Try.sizeOf135,Try.isAgg135,Try.zeroValue135,Try.underlying89,Try.runUnderlying89,Try.sizeOf89,Try.isAgg89,Try.zeroValue89,Try.underlying92,Try.runUnderlying92,Try.sizeOf92,Try.isAgg92,Try.zeroValue92,Try.underlying136,Try.runUnderlying136,Try.sizeOf136,Try.isAgg136,Try.zeroValue136,Try.underlying154,Try.runUnderlying154,Try.sizeOf154,Try.isAgg154,Try.zeroValue154,Try.underlying168,Try.runUnderlying168,Try.sizeOf168,Try.isAgg168,Try.zeroValue168,Try.underlying170,Try.runUnderlying170,Try.sizeOf170,Try.isAgg170,Try.zeroValue170,Try.underlying0,Try.runUnderlying0,Try.sizeOf0,Try.isAgg0,Try.zeroValue0,Try.underlying3,Try.runUnderlying3,Try.sizeOf3,Try.isAgg3,Try.zeroValue3,Try.underlying4,Try.runUnderlying4,Try.sizeOf4,Try.isAgg4,Try.zeroValue4,Try.underlying9,Try.runUnderlying9,Try.sizeOf9,Try.isAgg9,Try.zeroValue9,Try.underlying20,Try.runUnderlying20,Try.sizeOf20,Try.isAgg20,Try.zeroValue20,Try.underlying21,Try.runUnderlying21,Try.sizeOf21,Try.isAgg21,Try.zeroValue21,by kernel_rfl,by kernel_rfl⟩
instance payload:Go.ConcR.Payload:=⟨141⟩
end
section
def opsOf:Code→Array Oper
 | .seq _ (.region _ ops _)=>ops
 | _=>#[]
def dep:Nat→List Nat
 | 5=>[2,3,4]
 | 6=>[0,1,5]
 | 7=>[0,1,2,3,4,5,6]
 | _=>[]
theorem orders_ok:((orders .any (opsOf (jP Try.f105)) 8 (Array.replicate 8 false)).all fun l=>okl dep l&&l.length==8&&l.all (·<8)&&(List.range 8).all (fun j=>l.contains j))=true:=by kernel_rfl
theorem mixed:Try.prog.follows .mixedOrders=true:=by kernel_rfl
theorem order_ok (t:Nat):okl dep (Region.schedule (Try.prog.follows .mixedOrders) (opsOf (jP Try.f105)) t)=true∧(Region.schedule (Try.prog.follows .mixedOrders) (opsOf (jP Try.f105)) t).length=8 ∧
  (∀ i∈Region.schedule (Try.prog.follows .mixedOrders) (opsOf (jP Try.f105)) t,i<8)∧∀ j,j<8→j∈Region.schedule (Try.prog.follows .mixedOrders) (opsOf (jP Try.f105)) t:=by
 have h:=List.all_eq_true.1 orders_ok _ (schedule_orders mixed (opsOf (jP Try.f105)) t)
 simp only[Bool.and_eq_true,beq_iff_eq,List.all_eq_true,List.contains_eq_mem,decide_eq_true_eq,List.mem_range] at h
 exact⟨h.1.1.1,h.1.1.2,h.1.2,h.2⟩
end
end Go.Gal
namespace Go.Gal
open Go Go.Par Go.Proofs Go.Conc Go.ConcN Go.RowKit Go.Conc.Lib Go.ConcR.Gen Go.ConcN.Gen
section
open Go.ConcR (KK WgAt stA smA rd wr mk DC0)
structure Held where
 wg:Nat
 k:Nat
 menu:Nat
 good:Nat
 plans:Nat
def ptr (b:Nat):Value:=.pointer (some ⟨b,0,none⟩)
def Held.vals (h:Held):Array Value:=#[ptr h.wg,ptr h.k,ptr h.menu,ptr h.good,ptr h.plans]
def Held.call (h:Held):Deferred:={ target:=.fn (.func 105) h.vals,args:=#[] }
def b105:Frame:=baseD 105
noncomputable def bot:Frame:={ (default:Frame) with fn:=Try.prog.funcs.size,defers:=[],mode:=.panicking [goexitEntry] }
noncomputable abbrev body105:Code:=jP Try.f105
noncomputable abbrev ops105:Array Oper:=opsOf body105
def Held.done (h:Held):Deferred:={ target:=.fn (.func 106) #[],args:=#[ptr h.wg] }
def Held.start (h:Held):Array Value:=#[ptr h.wg,ptr h.k,ptr h.menu,ptr h.good,ptr h.plans,undef,undef,undef,undef,undef,undef,undef]
theorem born_step (h:Held) (w:World):stepG Try.prog false (born Try.prog h.call) w=.go (G (b105.at ⟨h.start,[]⟩ [.code body105]) [bot]) w #[]:=by
 simp[born,Held.call,Held.vals,Held.start,stepG,unwind,callDeferred,invoke,callFunc,Try.func105,Try.f105,seen,GStep.after,G,Frame.enter,Frame.at,b105,baseD,bot,body105,jP]
def AtReg (h:Held) (g:Goroutine) (_:World):Prop:=g=G (b105.at ⟨h.start,[h.done]⟩ [.code (.region 1 ops105 true)]) [bot]
set_option maxRecDepth 100000 in
theorem to_region {R:World→World→Prop} {h:Held} (rl:∀ {w w1},WgLive link.tWg h.wg w→R w w1→WgLive link.tWg h.wg w1) (w:World) (hF:WgLive link.tWg h.wg w):Goes Try.prog false R DC0 (AtReg h) 5 (born Try.prog h.call) w:=by
 refine Goes.step rfl fun w₁ h₁=>?_
 replace hF:=rl hF h₁
 clear h₁
 rw[born_step]
 refine⟨by u_nil,?_⟩
 have e:body105=.seq (.region 0 #[{ dst:=none,op:=Op.defer { callee:=.value (.func 106),args:=#[.tmp 0],argTypes:=#[138] },type:=0,pos:= "cheap.go:65",after:=#[],guard:=none }] false) (.region 1 ops105 true):=by kernel_rfl
 rw[e]
 simp only[Held.start]
 u_c stepG_seq rl hF
 u_reg rl hF
 u_defer rl hF
 u_c stepG_region_end rl hF
 exact Goes.stop fun w₂ h₂=>rfl
end
end Go.Gal
