/- Walks: GalleyMenu (printed by lawmenu.py a). -/
import Derived.Test.YtlgiofglcgbjgaaM44
namespace Go.Gal
open Go Go.Par Go.Proofs Go.RowKit
section
variable {fs:Array Func} [LikeS fs]
set_option maxRecDepth 100000 in
set_option maxHeartbeats 4000000 in
theorem law13 (ns:List Int) (A:Option Addr) (c:Nat) (w:World) (hx:Ints w A ns) (hl:ns.length≤9223372036854775807):Calls (Pf fs) 13 #[.slice A ns.length c] w fun e _=>e=.returned (.bool true):=by
 have HB:=Lib.hid (newBag_any (fs:=fs) A c ns w hx.toB hl)
 clear hx
 go_enter LK.func13,Try.ntmps13
 go_upto_region 2 with (first|(go_at_call 17;refine HB.out.mono ?_;rintro e w1 ⟨g,rfl,_,hb1,_⟩;clear HB)|(go_at_call 18;refine (kitchenOf_any g 2 8 4 w1 hb1 (by decide) (by decide) (by decide) (by decide) (by decide) (by decide)).mono ?_;rintro e w2 ⟨K,gA,gc,dA,dc,hA,hc,rfl,hK2,hkb2,h1,h2,h3,hcap⟩;have HC:=Lib.hid (dealt_valid h1 h2 h3 (by decide) (by decide) (by decide));have HK2:=Lib.hid hK2;have H2:=Lib.hid h2;have H3:=Lib.hid h3;clear hb1 hK2 hkb2 h1 h2 h3 hcap;unfold ktV))
 have hbx:(w2.alloc (.cells #[.slice gA K.goods.length gc,.slice dA K.dishes.length dc,.slice hA K.hauls.length hc] 29)).heap[w2.heap.size]?=some (.cells #[.slice gA K.goods.length gc,.slice dA K.dishes.length dc,.slice hA K.hauls.length hc] 29 (0,0)):=heap_alloc_new w2 _
 have HK3:=Lib.hid (HK2.out.grown (Grown.alloc w2 (.cells #[.slice gA K.goods.length gc,.slice dA K.dishes.length dc,.slice hA K.hauls.length hc] 29)))
 have HBX:=Lib.hid hbx
 have a0:=za hbx 0
 have a1:=za hbx 1
 have a2:=za hbx 2
 simp only[List.getElem?_toArray,List.getElem?_cons_zero,List.getElem?_cons_succ] at a0 a1 a2
 generalize w2.alloc (.cells #[.slice gA K.goods.length gc,.slice dA K.dishes.length dc,.slice hA K.hauls.length hc] 29)=w3 at HK3 HBX a0 a1 a2 ⊢
 generalize w2.heap.size=bx at HBX a0 a1 a2 ⊢
 clear hbx HK2
 obtain⟨d1,d2,_⟩:=H2.out
 obtain⟨n1,n2,_⟩:=H3.out
 have hmn:=menus_ref (fs:=fs) K gA dA hA gc dc hc ⟨d1,d2⟩ (by omega) K.hauls.length [] none 0 w3 HK3.out ⟨fun k x h=>by simp at h,fun k h=>by simp at h⟩ (by simp)
 rw[menusOn_nil d1] at hmn
 unfold ktV at hmn
 have HMN:=Lib.hid hmn
 clear hmn
 go_upto_region 3 with (go_at_call 57;refine HMN.out.mono ?_;rintro e w4 ⟨B,lc,rfl,g4,hr4⟩;have HG4:=Lib.hid g4;have HR4:=Lib.hid hr4.at_;clear g4 hr4)
 clear a0 a1 a2
 obtain⟨N,hN⟩:∃ N,N=K.hauls.length*K.dishes.length:=⟨_,rfl⟩
 have hN15:N≤15:=by rw[hN];exact Nat.le_trans (Nat.mul_le_mul (show K.hauls.length≤5 by omega) d2) (by decide)
 have hw1:IntKind.i64.wrap ((K.hauls.length:Int)*(K.dishes.length:Int))=(N:Int):=wrap_of (by rw[hN,Int.natCast_mul]) (by omega) (by omega)
 have hmk:=fun W=>make_any (fs:=fs) Try.underlying83 inf4 N (by omega) (by omega) (by omega) W
 have S4:=Lib.hid (show Menu13 w4 K gA dA hA gc dc hc bx B from ⟨HK3.out.grown HG4.out,zh HBX.out HG4.out,HC.out,HR4.out⟩)
 obtain⟨a0,a1,a2⟩:=S4.out.cells (Grown.refl _)
 have HN:=Lib.hid hN
 clear hN
 go_cut [5] (fun v W=>∃ mb:Nat,v=.slice (some ⟨mb,0,none⟩) N N∧Hid (w4.heap.size≤mb∧Grown w4 W∧BoolsAt W mb N (fun _=>false)))
 case first =>
  go_wp2_with fail
  go_meet
  exact⟨_,rfl,Lib.hid ⟨Nat.le_refl _,Grown.alloc _ _,by have h:=BoolsAt.made w4 N;rw[Nat.mul_one] at h;exact h⟩⟩
 case rest =>
 obtain⟨mb,rfl,HM⟩:=hcut
 refine (show ∀ (a:Act) (w1:World),Code.wp (Pf fs) (behindN 4 body13) (bodyPost (Pf fs) Try.f13 fun e _=>e=.returned (.bool true)) a w1→_ from by assumption) _ _ ?_
 exact law13b S4 HN.out HM.out.1 (Lib.hid HM.out.2.1) (Lib.hid HM.out.2.2)
end
end Go.Gal
