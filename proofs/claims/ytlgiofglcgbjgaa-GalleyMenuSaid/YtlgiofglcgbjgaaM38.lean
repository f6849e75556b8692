/- Walks: KitchenOf: what it holds. -/
import Derived.Test.YtlgiofglcgbjgaaM37
namespace Go.Gal
open Go Go.Par Go.Proofs Go.RowKit
theorem inf48:(Try.prog.info? 48).map (fun i=>(i.zero,i.size,i.bytes))=some (some (.agg #[.slice none 0 0]),1,24):=by kernel_rfl
structure KSt (g:Nat) (w wr:World) (tp:Nat) (gs:List Gd) (gA:Option Addr) (gc:Nat) (ds:List (List Int)) (dA:Option Addr) (dc:Nat) (hs:List Hl) (hA:Option Addr) (hc:Nat):Prop where
 box:wr.heap[w.heap.size+1]?=some (.cells #[.slice gA gs.length gc,.slice dA ds.length dc,.slice hA hs.length hc] 29 (0,0))
 res:wr.heap[w.heap.size]?=some (.cells #[.slice none 0 0,.slice none 0 0,.slice none 0 0] 29 (0,0))
 r1:GdList wr (w.heap.size+2) tp gA gc gs
 r2:DsList wr (w.heap.size+2) tp dA dc ds
 r3:HlList wr (w.heap.size+2) tp hA hc hs
 kb:Kb g w wr
 big:w.heap.size+2≤wr.heap.size
 top:tp≤wr.heap.size
section
variable {g tp:Nat} {w wr w2:World} {gs:List Gd} {gA:Option Addr} {gc:Nat} {ds:List (List Int)} {dA:Option Addr} {dc:Nat} {hs:List Hl} {hA:Option Addr} {hc:Nat}
theorem tag_ne {W:World} {b b':Nat} {cs cs':Array Value} {t t':TypeId} (h:W.heap[b]?=some (.cells cs t (0,0))) (h':W.heap[b']?=some (.cells cs' t' (0,0))) (ht:t≠t'):b≠b':=by
 rintro rfl
 rw[h] at h'
 injection h' with h'
 injection h' with _ h'
 exact ht h'
theorem BagAt.tag {W:World} {b:Nat} {cs:Array Value} {t:TypeId} (h:BagAt W g) (hb:W.heap[b]?=some (.cells cs t (0,0))) (ht:t≠91):b≠g:=by
 obtain⟨s,h⟩:=h
 exact tag_ne hb h ht
theorem RecList.kb {α : Type} {e size:Nat} {enc : α→Option Addr→Nat→List Value} {inn : α→List Int} {base top c:Nat} {A:Option Addr} {xs:List α} (h:RecList e size enc inn w base top A c xs) (hb:BagAt w g) (he:e≠91) (k:Kb g w w2):RecList e size enc inn w2 base top A c xs:=
 h.keep fun b cs t _ hc ht=>k.ke.same b (zg hc) (hb.tag hc (by rcases ht with rfl|rfl;exact he;decide))
theorem KSt.to (h:KSt g w wr tp gs gA gc ds dA dc hs hA hc) (k:Kb g wr w2):KSt g w w2 tp gs gA gc ds dA dc hs hA hc:=by
 have hb:=h.kb.bag
 have hs:=k.ke.size
 have hbig:=h.big
 have htop:=h.top
 exact⟨(k.ke.same _ (zg h.box) (hb.tag h.box (by decide))).trans h.box,(k.ke.same _ (zg h.res) (hb.tag h.res (by decide))).trans h.res,h.r1.kb hb (by decide) k,h.r2.kb hb (by decide) k,h.r3.kb hb (by decide) k,h.kb.trans k,by omega,by omega⟩
theorem KSt.putBox {i:Nat} {v:Value} {row:Option Nat} {W:World} (h:KSt g w wr tp gs gA gc ds dA dc hs hA hc) (hg:g<w.heap.size) (hgr:wr.grownBy W row) (hr:∀ k,row=some k→∃ cs t,wr.heap[k]?=some (.cells cs t (0,0))∧t≠29∧t≠91∧w.heap.size+2≤k) :
  W.heap[w.heap.size+1]?=some (.cells #[.slice gA gs.length gc,.slice dA ds.length dc,.slice hA hs.length hc] 29 (0,0)) ∧
  (W.setCell ⟨w.heap.size+1,i,none⟩ v).heap[w.heap.size+1]?=some (.cells (#[.slice gA gs.length gc,.slice dA ds.length dc,.slice hA hs.length hc].setIfInBounds i v) 29 (0,0)) ∧
  (W.setCell ⟨w.heap.size+1,i,none⟩ v).heap[w.heap.size]?=some (.cells #[.slice none 0 0,.slice none 0 0,.slice none 0 0] 29 (0,0))∧Kb g w (W.setCell ⟨w.heap.size+1,i,none⟩ v)∧w.heap.size+2≤(W.setCell ⟨w.heap.size+1,i,none⟩ v).heap.size∧wr.heap.size≤W.heap.size:=by
 have hs:=hgr.size
 have hbig:=h.big
 have hne:∀ b,b<w.heap.size+2→some b≠row:=fun b hb e=>by
  obtain⟨_,_,_,_,_,h5⟩:=hr b e.symm
  omega
 have b1:W.heap[w.heap.size+1]?=_:=(hgr.block _ (by omega) (hne _ (by omega))).trans h.box
 have b0:W.heap[w.heap.size]?=_:=(hgr.block _ (by omega) (hne _ (by omega))).trans h.res
 have bb:BagAt W g:=h.kb.bag.of_block (hgr.block _ h.kb.bag.lt (hne _ (by omega)))
 refine⟨b1,qc b1 _,?_,⟨bb.setCell (by simp;omega) _,(h.kb.ke.row hgr fun k hk=>?_).setCell (.inr (by simp)) _⟩,by simp[World.setCell];omega,hs⟩
 ·rw[Below.heap_setCell _ _ _ _ (by simp)];exact b0
 ·obtain⟨_,_,_,_,_,h5⟩:=hr k hk
  exact .inr (by omega)
theorem KSt.rowTag {e size:Nat} {α : Type} {enc : α→Option Addr→Nat→List Value} {inn : α→List Int} {base top c:Nat} {A:Option Addr} {xs:List α} (h:RecList e size enc inn wr base top A c xs) (h1:e≠29) (h2:e≠91):∀ k,(Value.slice A xs.length c).ownBlock=some k→∃ cs t,wr.heap[k]?=some (.cells cs t (0,0))∧t≠29∧t≠91∧base≤k:=fun k hk=>by
 obtain⟨⟨cs,q⟩,q2,_⟩:=h.tag hk
 exact⟨cs,e,q,h1,h2,q2⟩
theorem RecList.other {e size:Nat} {α : Type} {enc : α→Option Addr→Nat→List Value} {inn : α→List Int} {base top c:Nat} {A:Option Addr} {xs:List α} {row:Option Nat} {W:World} {e':Nat} (h:RecList e size enc inn wr base top A c xs) (hg:wr.grownBy W row) (hr:∀ k,row=some k→∃ cs,wr.heap[k]?=some (.cells cs e' (0,0))) (h1:e'≠e) (h2:e'≠3):RecList e size enc inn W base top A c xs:=
 h.row hg fun k hk=>by
  obtain⟨cs,q⟩:=hr k hk
  exact⟨cs,e',q,h1,h2⟩
theorem RecList.box {e size:Nat} {α : Type} {enc : α→Option Addr→Nat→List Value} {inn : α→List Int} {base top c:Nat} {A:Option Addr} {xs:List α} {W:World} {p:Addr} {cs:Array Value} (h:RecList e size enc inn W base top A c xs) (hp:W.heap[p.block]?=some (.cells cs 29 (0,0))) (h1:e≠29) (u:Value):RecList e size enc inn (W.setCell p u) base top A c xs:=
 h.setCell hp (fun q=>h1 q.symm) (by decide) u
theorem KSt.put1 {x:Gd} {A2:Option Addr} {c2:Nat} {W:World} (h:KSt g w wr tp gs gA gc ds dA dc hs hA hc) (hg:g<w.heap.size) (hR:GdList W (w.heap.size+2) W.heap.size A2 c2 (gs++[x])) (hgr:wr.grownBy W (Value.slice gA gs.length gc).ownBlock) :
  (W.cell? ⟨w.heap.size+1,0,none⟩=some (.slice gA gs.length gc)∧W.frozen? ⟨w.heap.size+1,0,none⟩=false) ∧
  KSt g w (W.setCell ⟨w.heap.size+1,0,none⟩ (.slice A2 (gs.length+1) c2)) W.heap.size (gs++[x]) A2 c2 ds dA dc hs hA hc:=by
 obtain⟨k1,k2,k3,k4,k5,k6⟩:=h.putBox (i:=0) (v:=.slice A2 (gs.length+1) c2) hg hgr (KSt.rowTag h.r1 (by decide) (by decide))
 have ht:=h.top
 have hz:(W.setCell ⟨w.heap.size+1,0,none⟩ (.slice A2 (gs.length+1) c2)).heap.size=W.heap.size:=by simp[World.setCell]
 refine⟨⟨za k1 0,zm k1 0⟩,by rw[List.length_append];exact k2,k3,hR.box k1 (by decide) _,?_,?_,k4,k5,by omega⟩
 ·exact ((h.r2.other hgr (fun k hk=>(h.r1.tag hk).1) (by decide) (by decide)).box k1 (by decide) _).up (by omega)
 ·exact ((h.r3.other hgr (fun k hk=>(h.r1.tag hk).1) (by decide) (by decide)).box k1 (by decide) _).up (by omega)
theorem KSt.put2 {x:List Int} {A2:Option Addr} {c2:Nat} {W:World} (h:KSt g w wr tp gs gA gc ds dA dc hs hA hc) (hg:g<w.heap.size) (hR:DsList W (w.heap.size+2) W.heap.size A2 c2 (ds++[x])) (hgr:wr.grownBy W (Value.slice dA ds.length dc).ownBlock) :
  (W.cell? ⟨w.heap.size+1,1,none⟩=some (.slice dA ds.length dc)∧W.frozen? ⟨w.heap.size+1,1,none⟩=false) ∧
  KSt g w (W.setCell ⟨w.heap.size+1,1,none⟩ (.slice A2 (ds.length+1) c2)) W.heap.size gs gA gc (ds++[x]) A2 c2 hs hA hc:=by
 obtain⟨k1,k2,k3,k4,k5,k6⟩:=h.putBox (i:=1) (v:=.slice A2 (ds.length+1) c2) hg hgr (KSt.rowTag h.r2 (by decide) (by decide))
 have ht:=h.top
 have hz:(W.setCell ⟨w.heap.size+1,1,none⟩ (.slice A2 (ds.length+1) c2)).heap.size=W.heap.size:=by simp[World.setCell]
 refine⟨⟨za k1 1,zm k1 1⟩,by rw[List.length_append];exact k2,k3,?_,hR.box k1 (by decide) _,?_,k4,k5,by omega⟩
 ·exact ((h.r1.other hgr (fun k hk=>(h.r2.tag hk).1) (by decide) (by decide)).box k1 (by decide) _).up (by omega)
 ·exact ((h.r3.other hgr (fun k hk=>(h.r2.tag hk).1) (by decide) (by decide)).box k1 (by decide) _).up (by omega)
theorem KSt.put3 {x:Hl} {A2:Option Addr} {c2:Nat} {W:World} (h:KSt g w wr tp gs gA gc ds dA dc hs hA hc) (hg:g<w.heap.size) (hR:HlList W (w.heap.size+2) W.heap.size A2 c2 (hs++[x])) (hgr:wr.grownBy W (Value.slice hA hs.length hc).ownBlock) :
  (W.cell? ⟨w.heap.size+1,2,none⟩=some (.slice hA hs.length hc)∧W.frozen? ⟨w.heap.size+1,2,none⟩=false) ∧
  KSt g w (W.setCell ⟨w.heap.size+1,2,none⟩ (.slice A2 (hs.length+1) c2)) W.heap.size gs gA gc ds dA dc (hs++[x]) A2 c2:=by
 obtain⟨k1,k2,k3,k4,k5,k6⟩:=h.putBox (i:=2) (v:=.slice A2 (hs.length+1) c2) hg hgr (KSt.rowTag h.r3 (by decide) (by decide))
 have ht:=h.top
 have hz:(W.setCell ⟨w.heap.size+1,2,none⟩ (.slice A2 (hs.length+1) c2)).heap.size=W.heap.size:=by simp[World.setCell]
 refine⟨⟨za k1 2,zm k1 2⟩,by rw[List.length_append];exact k2,k3,?_,?_,hR.box k1 (by decide) _,k4,k5,by omega⟩
 ·exact ((h.r1.other hgr (fun k hk=>(h.r3.tag hk).1) (by decide) (by decide)).box k1 (by decide) _).up (by omega)
 ·exact ((h.r2.other hgr (fun k hk=>(h.r3.tag hk).1) (by decide) (by decide)).box k1 (by decide) _).up (by omega)
theorem KSt.facts (h:KSt g w wr tp gs gA gc ds dA dc hs hA hc) :
  (wr.cell? ⟨w.heap.size+1,0,none⟩=some (.slice gA gs.length gc)∧wr.cell? ⟨w.heap.size+1,1,none⟩=some (.slice dA ds.length dc)∧wr.cell? ⟨w.heap.size+1,2,none⟩=some (.slice hA hs.length hc)) ∧
  (wr.cell? ⟨w.heap.size,0,none⟩=some (.slice none 0 0)∧wr.cell? ⟨w.heap.size,1,none⟩=some (.slice none 0 0)∧wr.cell? ⟨w.heap.size,2,none⟩=some (.slice none 0 0)) ∧
  wr.frozen? ⟨w.heap.size,0,none⟩=false∧wr.frozen? ⟨w.heap.size,1,none⟩=false∧wr.frozen? ⟨w.heap.size,2,none⟩=false:=
 ⟨⟨za h.box 0,za h.box 1,za h.box 2⟩,⟨za h.res 0,za h.res 1,za h.res 2⟩,zm h.res 0,zm h.res 1,zm h.res 2⟩
end
structure GdOk (room:Int) (x:Gd):Prop where
 room : 1≤x.room∧x.room≤room
 reserve : 0≤x.reserve∧x.reserve≤x.room
 melts : 0≤x.melts∧x.melts≤6
 start : 0≤x.start∧x.start≤x.room
def DsOk (ng:Nat) (d:List Int):Prop:=d.length=ng∧∀ x∈d,0≤x∧x≤3
structure HlOk (ng:Nat) (x:Hl):Prop where
 hours : 0≤x.hours∧x.hours≤10
 covers : 0≤x.covers∧x.covers≤9
 len:x.prices.length=ng
 prices:∀ y∈x.prices,0≤y∧y≤9
end Go.Gal
