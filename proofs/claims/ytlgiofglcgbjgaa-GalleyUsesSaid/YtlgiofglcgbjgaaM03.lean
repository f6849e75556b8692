/- Maps, slices, iterators, run beside themselves. Maps written, iterators, run beside themselves. Slices made, operators, builtins, run beside themselves. -/
import Derived.Test.YtlgiofglcgbjgaaM02
namespace Go.Par
open Go
section
section
variable {P:Program} {fs:Array Func} {B:Ren}
theorem zbH (d:TypeDesc) {v v' u u':Value} (h:VRel B v v') (k:VRel B u u'):Instr.sameNow d v u=none∨Instr.sameNow d v' u'=Instr.sameNow d v u:=by
 cases d<;>cases h<;>first|exact .inl rfl|exact .inr rfl|(cases k<;>first|exact .inl rfl|exact .inr rfl)
theorem sameNow_poison (d:TypeDesc) {v v' u u':Value} (h:VRel B v v') (k:VRel B u u') (hl:Instr.sameNow d v u=none) (hr:Instr.sameNow d v' u'≠none) :
  (v=.tuple #[]∨u=.tuple #[])∧((∃ k,d=.int k)∨d=.string∨d=.bool):=by
 have key:(∃ k,d=.int k)∨d=.string∨d=.bool:=by
  cases d<;>first|exact .inl ⟨_,rfl⟩|exact .inr (.inl rfl)|exact .inr (.inr rfl)|exact (hr (by cases v'<;>rfl)).elim
 refine⟨?_,key⟩
 cases h with
 | poison _=>exact .inl rfl
 | _ =>
  cases k with
  | poison _=>exact .inr rfl
  | _=>first|exact (hr hl).elim|(exfalso;apply hr;cases d<;>rfl)
theorem doomed_underlying {β : Type} {t:TypeId} {d:TypeDesc} {f:TypeDesc→Sem β} (hd:P.underlying t=some d) (h:Doomed P (f d)):Doomed P (underlying t >>= f):=by
 refine .program ?_
 show Doomed P ((match P.underlying t with|some i=>pure i|none=>stuck "no such type") >>= f)
 rw[hd]
 exact h
theorem doomed_equal {t:TypeId} {d:TypeDesc} (hd:P.underlying t=some d) {x y:Value} (hp:x=.tuple #[]∨y=.tuple #[]) (hk:(∃ k,d=.int k)∨d=.string∨d=.bool) (n:Nat):Doomed P (Op.equalIn (n+1) t x y):=by
 unfold Op.equalIn
 refine doomed_underlying hd ?_
 rcases hk with ⟨k,rfl⟩|rfl|rfl<;>rcases hp with rfl|rfl
 ·cases y<;>exact .halt trivial
 ·cases x<;>first|exact .halt trivial|(rename_i a;cases a<;>exact .halt trivial)
 ·cases y<;>exact .halt trivial
 ·cases x<;>exact .halt trivial
 ·cases y<;>exact .halt trivial
 ·cases x<;>exact .halt trivial
theorem doomed_unequal {β : Type} {t:TypeId} {d:TypeDesc} (hd:P.underlying t=some d) {x y:Value} (hs:Instr.sameNow d x y=some false) (n:Nat) {f:Bool→Sem β} (h:Doomed P (f false)):Doomed P (Op.equalIn (n+1) t x y >>= f):=by
 unfold Op.equalIn
 refine .program ?_
 show Doomed P (((match P.underlying t with|some i=>pure i|none=>stuck "no such type") >>= _) >>= f)
 rw[hd]
 cases d<;>cases x<;>first|cases hs|skip
 all_goals cases y<;>first|cases hs|skip
 ·rename_i b b'
  have e:(b==b')=false:=by simpa[Instr.sameNow] using hs
  show Doomed P (pure (b==b') >>= f)
  rw[e]
  exact h
 ·rename_i k0 k a k' b
  simp only[Instr.sameNow] at hs
  split at hs
  ·rename_i hkk
   have e:(a==b)=false:=by simpa using hs
   show Doomed P ((if k=k' then pure (a==b) else stuck "==: kinds differ") >>= f)
   rw[if_pos hkk,e]
   exact h
  ·cases hs
 ·rename_i b b'
  have e:(b==b')=false:=by simpa[Instr.sameNow] using hs
  show Doomed P (pure (b==b') >>= f)
  rw[e]
  exact h
theorem findNow_r (d:TypeDesc) {v v':Value} (h:VRel B v v') {l l':List MapEntry} (hl:LR (ER B) l l'):∀ i,Instr.findNow d v l i=none∨OR (OR fun (x y:Nat×Value)=>y.1=x.1∧VRel B x.2 y.2) (Instr.findNow d v l i) (Instr.findNow d v' l' i):=by
 induction hl with
 | nil=>intro i;exact .inr (.some .none)
 | @cons e e' l l' he _ ih =>
  intro i
  simp only[Instr.findNow]
  rcases zbH d h he.key with e1|e1
  ·rw[e1];exact .inl rfl
  ·rw[e1]
   cases Instr.sameNow d v e.key with
   | none=>exact .inl rfl
   | some b=>cases b with
    | true=>exact .inr (.some (.some ⟨rfl,he.val⟩))
    | false=>exact ih _
theorem findNow_doomed {t:TypeId} {d:TypeDesc} (hd:P.underlying t=some d) {v v':Value} (h:VRel B v v') {l l':List MapEntry} (hl:LR (ER B) l l'):∀ i j,Instr.findNow d v l i=none→Instr.findNow d v' l' i≠none→Doomed P (Instr.findAsking t v l j):=by
 induction hl with
 | nil=>intro i j e;simp[Instr.findNow] at e
 | @cons e e' l l' he _ ih =>
  intro i j h1 h2
  simp only[Instr.findNow] at h1 h2
  unfold Instr.findAsking Op.equal
  show Doomed P (Op.equalIn (9999+1) t v e.key >>= _)
  cases hs:Instr.sameNow d v e.key with
  | none =>
   have hr:Instr.sameNow d v' e'.key≠none:=fun x=>by rw[x] at h2;exact h2 rfl
   obtain⟨hp,hk⟩:=sameNow_poison d h he.key hs hr
   exact (doomed_equal hd hp hk _).bind
  | some b =>
   have e1:Instr.sameNow d v' e'.key=Instr.sameNow d v e.key:=(zbH d h he.key).resolve_left (by rw[hs];simp)
   rw[hs] at h1
   rw[e1,hs] at h2
   cases b with
   | true=>simp at h1
   | false=>exact doomed_unequal hd hs _ (ih _ _ h1 h2)
abbrev zeP:Ren→Option (Nat×Value)→Option (Nat×Value)→Prop:=fun C=>OR fun x y=>y.1=x.1∧VRel C x.2 y.2
theorem Yh (hB:Based P B) (t:TypeId):∀ {l l':List MapEntry} {C:Ren} {v v':Value},B.le C→VRel C v v'→LR (ER C) l l'→∀ i,SRel P (swap P fs) zeP C (Instr.findAsking t v l i) (Instr.findAsking t v' l' i)
 | [],[],C,v,v',_,_,.nil,i=>by unfold Instr.findAsking;exact zd .none
 | e::l,e'::l',C,v,v',hl,hv,.cons he h,i=>by
  unfold Instr.findAsking
  unfold Op.equal
  refine zb (yP hB _ _ hl hv he.key) fun D b hl2=>?_
  refine ite_r (fun _=>zd (.some ⟨rfl,he.val.mono hl2⟩)) fun _=>?_
  exact Yh hB t (hl.trans hl2) (hv.mono hl2) (h.mono fun _ _=>ER.mono hl2) (i+1)
theorem YA (hB:Based P B) (t:TypeId) {v v':Value} {l l':List MapEntry} (hv:VRel B v v') (h:LR (ER B) l l'):SRel P (swap P fs) zeP B (Instr.findKey t v l) (Instr.findKey t v' l'):=by
 unfold Instr.findKey
 refine zm fun d hd=>?_
 by_cases hx:Instr.findNow d v l 0=none
 ·by_cases hy:Instr.findNow d v' l' 0=none
  ·rw[hx,hy]
   exact Yh hB t (Ren.le.refl _) hv h 0
  ·rw[hx]
   exact .doomed (findNow_doomed hd hv h 0 0 hx hy)
 ·have:=(findNow_r d hv h 0).resolve_left hx
  generalize Instr.findNow d v l 0=x at this hx
  generalize Instr.findNow d v' l' 0=y at this
  cases this with
  | none=>exact (hx rfl).elim
  | some h=>exact zd h
theorem Zf (hB:Based P B) (e:Bool):∀ (n:Nat) (t:TypeId) {C:Ren} {v v':Value},Zb P n t=true→B.le C→VRel C v v'→SRel P (swap P fs) (Same Unit) C (Instr.checkKey e n t v) (Instr.checkKey e n t v')
 | 0,t,C,v,v',_,_,_=>by unfold Instr.checkKey;exact zp
 | n+1,t,C,v,v',hp,hl,hv=>by
  unfold Instr.checkKey
  refine zm fun d hd=>?_
  unfold Zb at hp
  rw[hd] at hp
  have cv:=hv.case
  cases d with
  | interface ms=>cases hp
  | array len elem =>
   cases cv<;>first|exact ze|skip
   rename_i h
   refine zb (s:=forIn [0:len] () _) (s':=forIn [0:len] () _) (Qm len _ fun D f s hl2=>?_) fun _ _ _=>zd rfl
   refine zS fun m=>(Qu _ _ (VsRel.mono hl2 h)).bind fun E x x' hl3 hx=>?_
   exact zb (Zf hB e n elem hp ((hl.trans hl2).trans hl3) hx) fun _ _ _=>zd rfl
  | struct fields =>
   cases cv<;>first|exact ze|skip
   rename_i h
   refine zb (s:=forIn fields () _) (s':=forIn fields () _) (forInArray_mem fields _ fun D f s hf hl2=>?_) fun _ _ _=>zd rfl
   refine ite_r (fun _=>?_) fun _=>zd rfl
   refine (Qu _ _ (VsRel.mono hl2 h)).bind fun E x x' hl3 hx=>?_
   exact zb (Zf hB e n _ (Array.all_eq_true'.1 hp f hf) ((hl.trans hl2).trans hl3) hx) fun _ _ _=>zd rfl
  | _=>cases cv<;>exact zd rfl
theorem lookup_r (T:TypesOk P.toTables) (hB:Based P B) (t:TypeId) (ht:t<P.types.size) {m m' v v':Value} (hm:VRel B m m') (hv:VRel B v v') (ok:Bool):SRel P (swap P fs) VR B (Instr.lookup t m v ok) (Instr.lookup t m' v' ok):=by
 unfold Instr.lookup
 refine zm fun d hdk=>?_
 cases d with
 | map key elem =>
  have jp:∀ {C:Ren} {es es':Array MapEntry},B.le C→Rows (ER C) es es'→SRel P (swap P fs) VR C
    (do
     Instr.checkKey es.isEmpty 10000 key v
     let (x,b) ← match ← Instr.findKey key v es.toList with
      | some (_,x)=>pure (x,true)
      | none=>pure (← zeroValue elem,false)
     pure (if ok then .tuple #[x,.bool b] else x))
    (do
     Instr.checkKey es'.isEmpty 10000 key v'
     let (x,b) ← match ← Instr.findKey key v' es'.toList with
      | some (_,x)=>pure (x,true)
      | none=>pure (← zeroValue elem,false)
     pure (if ok then .tuple #[x,.bool b] else x)):=by
   intro C es es' hl hes
   have hv:=hv.mono hl
   have hB:=hB.mono hl
   have he:es'.isEmpty=es.isEmpty:=by simp only[Array.isEmpty,hes.size]
   rw[he]
   refine zb (Zf hB _ _ _ (hB.keys _ _ _ ht hdk) (Ren.le.refl _) hv) fun D _ hl2=>?_
   refine (YA (hB.mono hl2) key (hv.mono hl2) ((hes.mono fun _ _=>ER.mono hl2).toList)).bind fun E f f' hl3 hf=>?_
   have fin:∀ (G:Ren) (x y:Value) (b:Bool),VRel G x y→SRel P (swap P fs) VR G (pure (if ok then .tuple #[x,.bool b] else x)) (pure (if ok then .tuple #[y,.bool b] else y)):=by
    intro G x y b h
    refine zd ?_
    show VRel G _ _
    split
    ·have:VsRel G #[x,.bool b] #[y,.bool b]:=(Rows.one h).push (.bool b)
     exact .tuple this.1 this.2
    ·exact h
   cases hf with
   | none=>exact (qG T elem).bind fun G z z' _ hz=>fin G _ _ false hz
   | some h=>exact fin E _ _ true h.2
  have cm:=hm.case
  cases cm<;>first|exact zF|exact jp (Ren.le.refl _) Rows.empty|skip
  rename_i h
  refine (qE h).bind fun C o o' hl ho=>?_
  cases ho<;>first|exact zF|(rename_i h;exact jp hl h)
 | _=>exact ze
end
end
section
theorem Rows.modify {α β : Type} {R : α→β→Prop} {a:Array α} {b:Array β} (h:Rows R a b) (i:Nat) {f : α→α} {g : β→β} (hf:∀ x y,R x y→R (f x) (g y)):Rows R (a.modify i f) (b.modify i g):=by
 refine⟨by simp[h.1],fun j x y hx hy=>?_⟩
 rw[Array.getElem?_modify] at hx hy
 split at hx
 ·rename_i e
  rw[if_pos e] at hy
  obtain⟨u,hu,rfl⟩:=Option.map_eq_some_iff.1 hx
  obtain⟨v,hv,rfl⟩:=Option.map_eq_some_iff.1 hy
  exact hf _ _ (h.2 _ _ _ hu hv)
 ·rename_i e
  rw[if_neg e] at hy
  exact h.2 _ _ _ hx hy
theorem LR.filter {α β : Type} {R : α→β→Prop} {l:List α} {m:List β} (h:LR R l m) {p : α→Bool} {q : β→Bool} (hp:∀ x y,R x y→q y=p x):LR R (l.filter p) (m.filter q):=by
 induction h with
 | nil=>exact .nil
 | @cons x y l m hr _ ih =>
  simp only[List.filter_cons,hp x y hr]
  split
  ·exact .cons hr ih
  ·exact ih
theorem LR.all {α β : Type} {R : α→β→Prop} {l:List α} {m:List β} (h:LR R l m) {p : α→Bool} {q : β→Bool} (hp:∀ x y,R x y→q y=p x):m.all q=l.all p:=by
 induction h with
 | nil=>rfl
 | cons hr _ ih=>simp only[List.all_cons,hp _ _ hr,ih]
theorem LR.findIdx {α β : Type} {R : α→β→Prop} {l:List α} {m:List β} (h:LR R l m) {p : α→Bool} {q : β→Bool} (hp:∀ x y,R x y→q y=p x):m.findIdx? q=l.findIdx? p:=by
 induction h with
 | nil=>rfl
 | cons hr _ ih=>simp only[List.findIdx?_cons,hp _ _ hr,ih]
theorem Rows.filter {α β : Type} {R : α→β→Prop} {a:Array α} {b:Array β} (h:Rows R a b) {p : α→Bool} {q : β→Bool} (hp:∀ x y,R x y→q y=p x):Rows R (a.filter p) (b.filter q):=by
 have:=(h.toList.filter hp).toArray
 rwa [← Array.toList_filter,← Array.toList_filter,Array.toArray_toList,Array.toArray_toList] at this
theorem Rows.all {α β : Type} {R : α→β→Prop} {a:Array α} {b:Array β} (h:Rows R a b) {p : α→Bool} {q : β→Bool} (hp:∀ x y,R x y→q y=p x):b.all q=a.all p:=by
 have:=h.toList.all hp
 rwa [Array.all_toList,Array.all_toList] at this
theorem Rows.findIdx {α β : Type} {R : α→β→Prop} {a:Array α} {b:Array β} (h:Rows R a b) {p : α→Bool} {q : β→Bool} (hp:∀ x y,R x y→q y=p x):b.findIdx? q=a.findIdx? p:=by
 have:=h.toList.findIdx hp
 rwa [← List.findIdx?_toArray,← List.findIdx?_toArray,Array.toArray_toList,Array.toArray_toList] at this
theorem Rows.isEmpty {α β : Type} {R : α→β→Prop} {a:Array α} {b:Array β} (h:Rows R a b):b.isEmpty=a.isEmpty:=by simp only[Array.isEmpty,h.size]
theorem OR.beqAddr {B:Ren} {x y x' y':Option Addr} (h:OR (AR B) x x') (k:OR (AR B) y y'):(x'==y')=(x==y):=by
 cases h with
 | none=>cases k<;>rfl
 | some h=>cases k with
  | none=>rfl
  | some k=>exact h.beq k
theorem sameBits_r {B:Ren} : ∀ (n:Nat) {v v' u u':Value},VRel B v v'→VRel B u u'→Instr.sameBits n v u=true→Instr.sameBits n v' u'=true:=by
 intro n
 induction n with
 | zero =>
  intro v v' u u' hv hu
  cases hv<;>cases hu<;>first
   | exact id
   | exact fun h=>Bool.noConfusion h
   | (unfold Instr.sameBits;intro h;exact (OR.beqAddr (by assumption) (by assumption)).trans h)
   | (unfold Instr.sameBits;intro h;exact (OR.beqNat (by assumption) (by assumption)).trans h)
 | succ n ih =>
  intro v v' u u' hv hu
  cases hv<;>cases hu<;>first
   | exact id
   | exact fun h=>Bool.noConfusion h
   | (unfold Instr.sameBits;intro h;exact (OR.beqAddr (by assumption) (by assumption)).trans h)
   | (unfold Instr.sameBits;intro h;exact (OR.beqNat (by assumption) (by assumption)).trans h)
   | (rename_i h _ _ _ k;unfold Instr.sameBits;intro e;rw[Bool.and_eq_true] at e ⊢;exact⟨e.1,ih h k e.2⟩)
   | skip
  rename_i a a' s1 h1 b b' s2 h2
  unfold Instr.sameBits
  rw[s1,s2]
  intro e
  rw[Bool.and_eq_true] at e ⊢
  refine⟨e.1,?_⟩
  replace e:=e.2
  have l1:LR (VRel B) a.toList a'.toList:=Rows.toList ⟨s1,h1⟩
  have l2:LR (VRel B) b.toList b'.toList:=Rows.toList ⟨s2,h2⟩
  clear s1 h1 s2 h2
  generalize a.toList=l at l1 e
  generalize a'.toList=l' at l1
  generalize b.toList=m at l2 e
  generalize b'.toList=m' at l2
  induction l1 generalizing m m' with
  | nil=>simp
  | cons h _ ihl=>cases l2 with
   | nil=>simp
   | cons k l2 =>
    simp only[List.zip_cons_cons,List.all_cons,Bool.and_eq_true] at e ⊢
    exact⟨ih h k e.1,ihl _ e.2 _ l2⟩
section
variable {P:Program} {fs:Array Func} {B:Ren}
theorem pair3 {C:Ren} {a b c a' b' c':Value} (h1:VRel C a a') (h2:VRel C b b') (h3:VRel C c c'):VRel C (.tuple #[a,b,c]) (.tuple #[a',b',c']):=by
 have:VsRel C #[a,b,c] #[a',b',c']:=((Rows.one h1).push h2).push h3
 exact .tuple this.1 this.2
theorem pair2 {C:Ren} {a b a' b':Value} (h1:VRel C a a') (h2:VRel C b b'):VRel C (.tuple #[a,b]) (.tuple #[a',b']):=by
 have:VsRel C #[a,b] #[a',b']:=(Rows.one h1).push h2
 exact .tuple this.1 this.2
theorem zdE {C:Ren} : VRel C (.tuple #[.bool false]) (.tuple #[.bool false]):=by
 have:VsRel C #[Value.bool false] #[Value.bool false]:=Rows.one (.bool _)
 exact .tuple this.1 this.2
theorem Qz {v v' u u':Value} (hv:VRel B v v') (hu:VRel B u u'):SRel P (swap P fs) VR B (Instr.keyThatStays v u) (Instr.keyThatStays v' u'):=by
 unfold Instr.keyThatStays
 cases e:Instr.sameBits 10000 v u with
 | true =>
  rw[sameBits_r 10000 hv hu e]
  exact zd hu
 | false =>
  cases e':Instr.sameBits 10000 v' u' with
  | true=>exact .chooseL (.extern "map.whichKeyStays" 2) 0 0 rfl rfl (zd hu)
  | false =>
   refine zb (qN _) fun C n hl=>zd ?_
   show VRel C _ _
   split
   ·exact hu.mono hl
   ·exact hv.mono hl
theorem zef {es es':Array MapEntry} (h:Rows (ER B) es es') (i:Nat) {v v':Value} (hv:VRel B v v'):VRel B (((es[i]?).map (·.key)).getD v) (((es'[i]?).map (·.key)).getD v'):=by
 have:=h.getO i
 generalize es[i]?=x at this
 generalize es'[i]?=y at this
 cases this with
 | none=>exact hv
 | some h=>exact h.key
theorem YR (hB:Based P B) (t:TypeId) (ht:t<P.types.size) {m m' k k' v v':Value} (hm:VRel B m m') (hk:VRel B k k') (hv:VRel B v v'):SRel P (swap P fs) (Same Unit) B (Instr.mapUpdate t m k v) (Instr.mapUpdate t m' k' v'):=by
 unfold Instr.mapUpdate
 refine zm fun d hdk=>?_
 cases d with
 | map key elem =>
  have cm:=hm.case
  cases cm<;>first|exact ze|exact zG hB.handle _|skip
  rename_i r r' h
  refine (qE h).bind fun C o o' hl ho=>?_
  cases ho<;>first|exact zF|exact ze|skip
  rename_i es es' c hes
  refine zb (Zf (hB.mono hl) _ _ _ (hB.keys _ _ _ ht hdk) (Ren.le.refl _) (hk.mono hl)) fun D _ hl2=>?_
  have l2:=hl.trans hl2
  have hes:=hes.mono fun _ _=>ER.mono (B:=C) (C:=D) hl2
  refine (YA (hB.mono l2) key (hk.mono l2) hes.toList).bind fun E f f' hl3 hf=>?_
  have l3:=l2.trans hl3
  have hes:=hes.mono fun _ _=>ER.mono (B:=D) (C:=E) hl3
  cases hf with
  | none=>exact qW (l3 _ _ h) (.map _ (hes.push ⟨hk.mono l3,hv.mono l3,rfl⟩))
  | some hf =>
   rename_i x y
   obtain⟨i,z⟩:=x
   obtain⟨i',z'⟩:=y
   obtain⟨e,hz⟩:=hf
   simp only at e
   subst e
   refine (Qz (zef hes i' (hk.mono l3)) (hk.mono l3)).bind fun F q q' hl4 hq=>?_
   refine qW ((l3.trans hl4) _ _ h) (.map _ ((hes.mono fun _ _=>ER.mono hl4).modify i' fun x y hxy=>⟨hq,hv.mono (l3.trans hl4),hxy.born⟩))
 | _=>exact ze
theorem mapEntry_r (T:TypesOk P.toTables) (hB:Based P B) (t:TypeId) (ht:t<P.types.size) {m m' k k':Value} (hm:VRel B m m') (hk:VRel B k k'):SRel P (swap P fs) VR B (Instr.mapEntry t m k) (Instr.mapEntry t m' k'):=by
 unfold Instr.mapEntry
 refine zm fun d hdk=>?_
 cases d with
 | map key elem =>
  have cm:=hm.case
  cases cm<;>first|exact ze|exact zG hB.handle _|skip
  rename_i r r' h
  refine (qE h).bind fun C o o' hl ho=>?_
  cases ho<;>first|exact zF|exact ze|skip
  rename_i es es' c hes
  refine zb (Zf (hB.mono hl) _ _ _ (hB.keys _ _ _ ht hdk) (Ren.le.refl _) (hk.mono hl)) fun D _ hl2=>?_
  have l2:=hl.trans hl2
  have hes:=hes.mono fun _ _=>ER.mono (B:=C) (C:=D) hl2
  refine (YA (hB.mono l2) key (hk.mono l2) hes.toList).bind fun E f f' hl3 hf=>?_
  have l3:=l2.trans hl3
  have hes:=hes.mono fun _ _=>ER.mono (B:=D) (C:=E) hl3
  cases hf with
  | none =>
   refine (qG T elem).bind fun F z z' hl4 hz=>?_
   refine zb (qW ((l3.trans hl4) _ _ h) (.map _ ((hes.mono fun _ _=>ER.mono hl4).push ⟨hk.mono (l3.trans hl4),hz,rfl⟩))) fun G _ hl5=>zd ?_
   have:VsRel G #[z,goInt c] #[z',goInt c]:=(Rows.one (hz.mono hl5)).push (.int _ _)
   exact .tuple this.1 this.2
  | some hf =>
   rename_i x y
   obtain⟨i,z⟩:=x
   obtain⟨i',z'⟩:=y
   obtain⟨e,hz⟩:=hf
   simp only at e hz
   subst e
   refine (Qz (zef hes i' (hk.mono l3)) (hk.mono l3)).bind fun F q q' hl4 hq=>?_
   refine zb (qW ((l3.trans hl4) _ _ h) (.map _ ((hes.mono fun _ _=>ER.mono hl4).modify i' fun x y hxy=>⟨hq,hxy.val,hxy.born⟩))) fun G _ hl5=>zd ?_
   refine pair2 ((hz.mono hl4).mono hl5) ?_
   have:=hes.getO i'
   generalize es[i']?=x at this
   generalize es'[i']?=y at this
   cases this with
   | none=>exact .int _ _
   | some h=>simp only[Option.map_some,h.born];exact .int _ _
 | _=>exact ze
theorem entryStore_r (t:TypeId) {m m' k k' v v':Value} (hm:VRel B m m') (hk:VRel B k k') (hv:VRel B v v'):SRel P (swap P fs) (Same Unit) B (Instr.entryStore t m k v) (Instr.entryStore t m' k' v'):=by
 unfold Instr.entryStore
 have cm:=hm.case
 cases cm<;>first|exact ze|skip
 rename_i r r' h
 refine (qE h).bind fun C o o' hl ho=>?_
 cases ho<;>first|exact zF|exact ze|skip
 rename_i es es' c hes
 refine zb (Qi (hk.mono hl)) fun D n hl2=>?_
 have hes:=hes.mono fun _ _=>ER.mono (B:=C) (C:=D) hl2
 have e:es'.findIdx? (fun e=>(e.born:Int)==n)=es.findIdx? (fun e=>(e.born:Int)==n):=hes.findIdx fun x y hxy=>by rw[hxy.born]
 simp only[e]
 cases es.findIdx? (fun e=>(e.born:Int)==n) with
 | none=>exact zp
 | some i=>exact qW ((hl.trans hl2) _ _ h) (.map _ (hes.modify i fun x y hxy=>⟨hxy.key,hv.mono (hl.trans hl2),hxy.born⟩))
theorem iterR {o o':Obj} (ho:ORel B o o'):SRel P (swap P fs) VR B (do pure (.pointer (some ⟨← newObj o,0,none⟩))) (do pure (.pointer (some ⟨← newObj o',0,none⟩))):=
 (yW ho).bind fun _ _ _ _ hr=>zd (.pointer (.some ⟨hr,rfl,rfl⟩))
theorem range_r (t:TypeId) {v v':Value} (hv:VRel B v v'):SRel P (swap P fs) VR B (Instr.range t v) (Instr.range t v'):=by
 unfold Instr.range
 refine zm fun d _=>?_
 have cv:=hv.case
 cases d with
 | string =>
  cases cv<;>first|exact zF|exact iterR (.stringIter _ _)
 | map key elem =>
  cases cv<;>first|exact zF|exact iterR (.mapIter _ _ _ .none)|skip
  rename_i h
  refine (qE h).bind fun C o o' hl ho=>?_
  cases ho<;>first|exact zF|exact iterR (.mapIter _ _ _ (.some (hl _ _ h)))
 | _=>cases cv<;>exact zF
theorem next_r (t:TypeId) (isS:Bool) {v v':Value} (hv:VRel B v v'):SRel P (swap P fs) VR B (Instr.next v isS t) (Instr.next v' isS t):=by
 unfold Instr.next
 have cv:=hv.case
 cases cv<;>first|exact ze|skip
 rename_i a a' h
 obtain⟨b,off,spot⟩:=a
 obtain⟨b',off',spot'⟩:=a'
 obtain⟨h,e1,e2⟩:=h
 simp only at e1 e2 h
 subst e1 e2
 cases off' with
 | succ n=>exact ze
 | zero =>
  refine (qE h).bind fun C o o' hl ho=>?_
  cases ho with
  | stringIter s p =>
   cases isS
   ·exact ze
   ·refine ite_r (fun _=>?_) fun _=>zd zdE
    split
    exact zb (qW (hl _ _ h) (.stringIter _ _)) fun D _ _=>zd (pair3 (.bool _) (.int _ _) (.int _ _))
  | mapIter s n k hm =>
   cases isS
   ·cases hm with
    | none=>exact zd zdE
    | some hm =>
     refine (qE hm).bind fun D o o' hl2 ho=>?_
     cases ho<;>first|exact zF|exact ze|skip
     rename_i es es' c hes
     dsimp only
     rw[show es'.all (fun e=>decide (e.born≥k))=es.all (fun e=>decide (e.born≥k)) from hes.all fun x y hxy=>by rw[hxy.born],hes.isEmpty]
     refine ite_r (fun _=>qb) fun _=>?_
     have hleft:Rows (ER D) (es.filter fun e=>!n.contains e.born) (es'.filter fun e=>!n.contains e.born):=hes.filter fun x y hxy=>by rw[hxy.born]
     have hold:=hleft.filter (p:=fun e=>decide (e.born<s)) (q:=fun e=>decide (e.born<s)) fun x y hxy=>by rw[hxy.born]
     have hnew:=hleft.filter (p:=fun e=>decide (e.born≥s)) (q:=fun e=>decide (e.born≥s)) fun x y hxy=>by rw[hxy.born]
     have hc:Rows (OR (ER D)) ((if ((es.filter fun e=>!n.contains e.born).filter fun e=>decide (e.born<s)).isEmpty then #[none] else #[])++(((es.filter fun e=>!n.contains e.born).filter fun e=>decide (e.born<s))++((es.filter fun e=>!n.contains e.born).filter fun e=>decide (e.born≥s))).map some)
       ((if ((es'.filter fun e=>!n.contains e.born).filter fun e=>decide (e.born<s)).isEmpty then #[none] else #[])++(((es'.filter fun e=>!n.contains e.born).filter fun e=>decide (e.born<s))++((es'.filter fun e=>!n.contains e.born).filter fun e=>decide (e.born≥s))).map some):=by
      refine Rows.append ?_ ((hold.append hnew).map fun x y hxy=>.some hxy)
      rw[hold.isEmpty]
      split
      ·exact Rows.one .none
      ·exact Rows.empty
     generalize (if ((es.filter fun e=>!n.contains e.born).filter fun e=>decide (e.born<s)).isEmpty then #[none] else #[])++(((es.filter fun e=>!n.contains e.born).filter fun e=>decide (e.born<s))++((es.filter fun e=>!n.contains e.born).filter fun e=>decide (e.born≥s))).map some=cs at hc
     generalize (if ((es'.filter fun e=>!n.contains e.born).filter fun e=>decide (e.born<s)).isEmpty then #[none] else #[])++(((es'.filter fun e=>!n.contains e.born).filter fun e=>decide (e.born<s))++((es'.filter fun e=>!n.contains e.born).filter fun e=>decide (e.born≥s))).map some=cs' at hc
     rw[hc.size]
     refine zb (qN _) fun E q hl3=>?_
     have:=hc.getO q
     generalize cs[q]?=x at this
     generalize cs'[q]?=y at this
     cases this with
     | none=>exact ze
     | some hxy=>cases hxy with
      | none=>exact zd zdE
      | some hxy =>
       simp only
       rw[hxy.born]
       refine zb (qW (hl3 _ _ (hl2 _ _ (hl _ _ h))) (.mapIter _ _ _ (.some (hl3 _ _ (hl2 _ _ hm))))) fun F _ hl4=>zd ?_
       exact pair3 (.bool _) ((hxy.key.mono hl3).mono hl4) ((hxy.val.mono hl3).mono hl4)
   ·cases hm<;>exact ze
  | _=>exact ze
end
end
section
theorem zbB {B:Ren} {z z':Array Value} (h:VsRel B z z') (n:Nat):VsRel B ((Array.range n).map (z[· % z.size]!)) ((Array.range n).map (z'[· % z'.size]!)):=by
 rw[h.size]
 exact zav n fun i=>h.getBang _
section
variable {P:Program} {fs:Array Func} {B:Ren}
theorem buildSlice_r (T:TypesOk P.toTables) (t:TypeId) (len:Nat) {ps ps':Array (Nat×Value)} (h:zby B ps.toList ps'.toList):SRel P (swap P fs) VR B (Instr.buildSlice t len ps) (Instr.buildSlice t len ps'):=by
 unfold Instr.buildSlice
 refine zm fun d _=>?_
 cases d with
 | slice elem =>
  refine zS fun size=>ite_r (fun _=>qb) fun _=>?_
  have fin:∀ (C:Ren) (z z':Array Value),B.le C→VsRel C z z'→SRel P (swap P fs) VR C
    (do
     let some cells:=Instr.fill (fun i=>some (i*size,size)) ((Array.range (len*size)).map (z[· % z.size]!)) ps.toList
      | stuck "buildSlice: a part of the wrong size"
     pure (.slice (some (← newRow elem cells)) len len))
    (do
     let some cells:=Instr.fill (fun i=>some (i*size,size)) ((Array.range (len*size)).map (z'[· % z'.size]!)) ps'.toList
      | stuck "buildSlice: a part of the wrong size"
     pure (.slice (some (← newRow elem cells)) len len)):=by
   intro C z z' hl hz
   have:=zcC (B:=C) (fun i=>some (i*size,size)) _ _ _ _ (h.mono fun _ _ x=>⟨x.1,x.2.mono hl⟩) (zbB hz (len*size))
   generalize Instr.fill (fun i=>some (i*size,size)) ((Array.range (len*size)).map (z[· % z.size]!)) ps.toList=x at this
   generalize Instr.fill (fun i=>some (i*size,size)) ((Array.range (len*size)).map (z'[· % z'.size]!)) ps'.toList=y at this
   cases this with
   | none=>exact ze
   | some h=>exact (JU elem h).bind fun D a a' _ ha=>zd (.slice _ _ (.some ha))
  refine ite_r (fun _=>fin B _ _ (Ren.le.refl _) Rows.empty) fun _=>?_
  exact (qG T elem).bind fun C z z' hl hz=>fin C _ _ hl hz.cells
 | _=>exact ze
theorem makeSlice_r (T:TypesOk P.toTables) (hB:Based P B) (t:TypeId) {l l' c c':Value} (hl:VRel B l l') (hc:VRel B c c'):SRel P (swap P fs) VR B (Instr.makeSlice t l c) (Instr.makeSlice t l' c'):=by
 unfold Instr.makeSlice
 refine zm fun d _=>?_
 cases d with
 | slice elem =>
  refine zb (Qi hl) fun C len l1=>zb (Qi (hc.mono l1)) fun D cap l2=>?_
  have hB:=(hB.mono l1).mono l2
  refine qe fun i _=>?_
  refine ite_r (fun _=>?_) fun _=>?_
  ·refine ite_r (fun _=>qc hB.handle _) fun _=>ite_r (fun _=>qc hB.handle _) fun _=>?_
   refine zb (qN _) fun E n l3=>?_
   exact qc (hB.mono l3).handle _
  ·refine zb (zcq _) fun E _ l3=>?_
   refine zS fun size=>?_
   have fin:∀ (C:Ren) (z z':Array Value),VsRel C z z'→SRel P (swap P fs) VR C
     (do
      let a ← newRow elem ((Array.range ((IntKind.i64.wrap cap).toNat*size)).map (z[· % z.size]!))
      pure (.slice (some a) (IntKind.i64.wrap len).toNat (IntKind.i64.wrap cap).toNat))
     (do
      let a ← newRow elem ((Array.range ((IntKind.i64.wrap cap).toNat*size)).map (z'[· % z'.size]!))
      pure (.slice (some a) (IntKind.i64.wrap len).toNat (IntKind.i64.wrap cap).toNat)):=by
    intro C z z' hz
    exact (JU elem (zbB hz _)).bind fun D a a' _ ha=>zd (.slice _ _ (.some ha))
   refine ite_r (fun _=>fin E _ _ Rows.empty) fun _=>?_
   exact (qG T elem).bind fun C z z' hl hz=>fin C _ _ hz.cells
 | _=>exact ze
theorem makeInterface_r (t:TypeId) {v v':Value} (hv:VRel B v v'):SRel P (swap P fs) VR B (Instr.makeInterface t v) (Instr.makeInterface t v'):=by
 unfold Instr.makeInterface
 refine zm fun d _=>?_
 cases d<;>first|exact ze|exact zd (.iface _ hv)
theorem makeFunc_r {fn:Fn} (hf:FR B fn fn) {f f' c c':Array Value} (h:VsRel B f f') (k:VsRel B c c'):SRel P (swap P fs) VR B (Instr.makeFunc fn f c) (Instr.makeFunc fn f' c'):=
 zd (.func hf h.1 h.2 k.1 k.2)
theorem makeMap_r (t:TypeId) {r r':Option Value} (h:OR (VRel B) r r'):SRel P (swap P fs) VR B (Instr.makeMap t r) (Instr.makeMap t r'):=by
 unfold Instr.makeMap
 have fin:∀ C:Ren,SRel P (swap P fs) VR C (do pure (.map (some (← newObj (.map #[] 0))))) (do pure (.map (some (← newObj (.map #[] 0))))):=fun C =>
  (yW (.map 0 Rows.empty)).bind fun D r r' _ hr=>zd (.map (.some hr))
 cases h with
 | none=>exact fin B
 | some h =>
  refine zm fun d _=>?_
  cases d<;>first|exact ze|exact zF|exact zb (Qi h) fun C _ _=>fin C
theorem makeChan_r (hB:Based P B) (t:TypeId) {v v':Value} (h:VRel B v v'):SRel P (swap P fs) VR B (Instr.makeChan t v) (Instr.makeChan t v'):=by
 unfold Instr.makeChan
 refine zb (Qi h) fun C n hl=>zm fun d _=>?_
 cases d with
 | chan dir elem =>
  refine qe fun i _=>ite_r (fun _=>qc (hB.mono hl).handle _) fun _=>?_
  exact (yW (.chan _ _ _ _ _ Rows.empty)).bind fun D r r' _ hr=>zd (.chan (.some hr))
 | _=>exact ze
theorem extract_r {v v':Value} (h:VRel B v v') (i:Nat):SRel P (swap P fs) VR B (Instr.extract v i) (Instr.extract v' i):=by
 unfold Instr.extract
 have cv:=h.case
 cases cv<;>first|exact ze|skip
 rename_i vs vs' hs
 have:=hs.getO i
 dsimp only
 generalize vs[i]?=x at this
 generalize vs'[i]?=y at this
 cases this with
 | none=>exact ze
 | some h=>exact zd h
theorem field_r (t:TypeId) {v v':Value} (h:VRel B v v') (k:Nat):SRel P (swap P fs) VR B (Instr.field t v k) (Instr.field t v' k):=by
 unfold Instr.field
 refine zm fun d _=>?_
 cases d with
 | struct fields =>
  cases hf:fields[k]? with
  | none=>simp only[hf];exact ze
  | some f=>simp only[hf];exact (asAgg_r h).bind fun C x x' _ hx=>Qu _ _ hx
 | _=>exact ze
theorem index_r (hB:Based P B) (t:TypeId) {v v' i i':Value} (h:VRel B v v') (hi:VRel B i i'):SRel P (swap P fs) VR B (Instr.index t v i) (Instr.index t v' i'):=by
 unfold Instr.index
 refine zb (ZK hi) fun C ki hl=>?_
 obtain⟨k,i⟩:=ki
 have hB:=hB.mono hl
 refine zm fun d _=>?_
 have cv:=(h.mono hl).case
 cases d with
 | array len elem =>
  cases cv<;>first|exact ze|skip
  rename_i hs
  exact ite_r (fun _=>zS fun n=>Qu _ _ hs) fun _=>qU hB.handle _ _ _ _
 | string =>
  cases cv<;>first|exact ze|skip
  rename_i s
  dsimp only
  split
  ·exact zd (.int _ _)
  ·exact qU hB.handle _ _ _ _
 | _=>cases cv<;>exact ze
theorem yM (hB:Based P B) {v v':Value} (h:VRel B v v') (y:Nat) (c:BoundsCode):SRel P (swap P fs) (Same Nat) B (Instr.sliceBound v y c) (Instr.sliceBound v' y c):=by
 unfold Instr.sliceBound
 refine zb (ZK h) fun C ki hl=>?_
 obtain⟨k,i⟩:=ki
 exact ite_r (fun _=>zd rfl) fun _=>qU (hB.mono hl).handle _ _ _ _
theorem yp (hB:Based P B) (isS:Bool) (len cap:Nat) {l l' h h' m m':Option Value} (hl:OR (VRel B) l l') (hh:OR (VRel B) h h') (hm:OR (VRel B) m m') :
  SRel P (swap P fs) (Same _) B (Instr.sliceBounds isS len cap l h m) (Instr.sliceBounds isS len cap l' h' m'):=by
 unfold Instr.sliceBounds
 have fin:∀ (C:Ren) (l1:B.le C) (mm hx:Nat) (c:BoundsCode),SRel P (swap P fs) (Same _) C
   (match (generalizing:=false) l with|some v=>do { let l ← Instr.sliceBound v hx c;pure (l,hx,mm) }|none=>do { let l ← pure 0;pure (l,hx,mm) })
   (match (generalizing:=false) l' with|some v=>do { let l ← Instr.sliceBound v hx c;pure (l,hx,mm) }|none=>do { let l ← pure 0;pure (l,hx,mm) }):=by
  intro C l1 mm hx c
  cases hl with
  | none=>exact zd rfl
  | some hl=>exact zb (yM (hB.mono l1) (hl.mono l1) _ _) fun _ _ _=>zd rfl
 cases hm with
 | none =>
  cases hh with
  | none=>exact fin B (Ren.le.refl _) cap len .sliceB
  | @some a a' hh =>
   have:=zb (f:=fun hx=>match (generalizing:=false) l with|some v=>do { let l ← Instr.sliceBound v hx .sliceB;pure (l,hx,cap) }|none=>do { let l ← pure 0;pure (l,hx,cap) })
    (f':=fun hx=>match (generalizing:=false) l' with|some v=>do { let l ← Instr.sliceBound v hx .sliceB;pure (l,hx,cap) }|none=>do { let l ← pure 0;pure (l,hx,cap) })
    (yM hB hh cap (if isS then .sliceAcap else .sliceAlen)) fun C hx l1=>fin C l1 cap hx .sliceB
   exact this
 | some hm =>
  refine zb (yM hB hm _ _) fun C mm l1=>?_
  cases hh with
  | none=>exact zF
  | some hh=>exact zb (yM (hB.mono l1) (hh.mono l1) _ _) fun D hx l2=>fin D (l1.trans l2) mm hx .slice3C
theorem yq (hB:Based P B) {v v':Value} (h:VRel B v v') (c:BoundsCode):SRel P (swap P fs) (fun _ a b=>b=a∧a=0) B (Instr.sliceBound v 0 c) (Instr.sliceBound v' 0 c):=by
 unfold Instr.sliceBound
 refine zb (ZK h) fun C ki hl=>?_
 obtain⟨k,i⟩:=ki
 exact ite_r (fun _=>zd ⟨rfl,by omega⟩) fun _=>qU (hB.mono hl).handle _ _ _ _
theorem sliceBounds0_r (hB:Based P B) (isS:Bool) {l l' h h' m m':Option Value} (hl:OR (VRel B) l l') (hh:OR (VRel B) h h') (hm:OR (VRel B) m m') :
  SRel P (swap P fs) (fun _ a b=>b=a∧a=(0,0,0)) B (Instr.sliceBounds isS 0 0 l h m) (Instr.sliceBounds isS 0 0 l' h' m'):=by
 unfold Instr.sliceBounds
 have fin:∀ (C:Ren) (l1:B.le C) (c:BoundsCode),SRel P (swap P fs) (fun _ a b=>b=a∧a=(0,0,0)) C
   (match (generalizing:=false) l with|some v=>do { let l ← Instr.sliceBound v 0 c;pure (l,0,0) }|none=>do { let l ← pure 0;pure (l,0,0) })
   (match (generalizing:=false) l' with|some v=>do { let l ← Instr.sliceBound v 0 c;pure (l,0,0) }|none=>do { let l ← pure 0;pure (l,0,0) }):=by
  intro C l1 c
  cases hl with
  | none=>exact zd ⟨rfl,rfl⟩
  | some hl=>exact (yq (hB.mono l1) (hl.mono l1) _).bind fun _ a b _ e=>by obtain⟨rfl,rfl⟩:=e;exact zd ⟨rfl,rfl⟩
 cases hm with
 | none =>
  cases hh with
  | none=>exact fin B (Ren.le.refl _) .sliceB
  | some hh=>exact (yq hB hh _).bind fun C a b l1 e=>by obtain⟨rfl,rfl⟩:=e;exact fin C l1 .sliceB
 | some hm =>
  refine (yq hB hm _).bind fun C a b l1 e=>?_
  obtain⟨rfl,rfl⟩:=e
  cases hh with
  | none=>exact zF
  | some hh=>exact (yq (hB.mono l1) (hh.mono l1) _).bind fun D a b l2 e=>by obtain⟨rfl,rfl⟩:=e;exact fin D (l1.trans l2) .slice3C
theorem OR.sliceOff {C:Ren} {a a':Option Addr} (h:OR (AR C) a a') (c:Prop) [Decidable c] (n:Nat):OR (AR C) (if c then a else a.map (·.add n)) (if c then a' else a'.map (·.add n)):=by
 split
 ·exact h
 ·cases h with
  | none=>exact .none
  | some h=>exact .some (h.add n)
theorem slice_r (hB:Based P B) (t:TypeId) {v v':Value} (hv:VRel B v v') {l l' h h' m m':Option Value} (hl:OR (VRel B) l l') (hh:OR (VRel B) h h') (hm:OR (VRel B) m m') :
  SRel P (swap P fs) VR B (Instr.slice t v l h m) (Instr.slice t v' l' h' m'):=by
 unfold Instr.slice
 have hm':m'.isSome=m.isSome:=by cases hm<;>rfl
 refine zm fun d _=>?_
 cases d with
 | string =>
  cases hv<;>first|exact ze|skip
  dsimp only
  rw[hm']
  refine ite_r (fun _=>zF) fun _=>?_
  exact zb (yp hB _ _ _ hl hh .none) fun _ x _=>zd (.string _)
 | slice elem =>
  cases hv with
  | slice len cap ha =>
   refine zb (yp hB _ _ _ hl hh hm) fun C x l1=>zS fun n=>zd ?_
   exact .slice _ _ (OR.sliceOff (ha.mono fun _ _=>AR.mono l1) _ _)
  | empty =>
   refine (sliceBounds0_r hB true hl hh hm).bind fun C x x' l1 hx=>?_
   obtain⟨rfl,rfl⟩:=hx
   refine zS fun n=>zd ?_
   exact .empty
  | _=>exact ze
 | pointer arr =>
  have cv:=hv.case
  refine SRel.bind (R:=AdR) (S:=VR) ?_ ?_
  ·exact zdw hB.handle hv
  intro C a a' l1 ha
  refine zm fun d _=>?_
  cases d with
  | array n elem =>
   refine zb (yp (hB.mono l1) _ _ _ (hl.mono fun _ _=>VRel.mono l1) (hh.mono fun _ _=>VRel.mono l1) (hm.mono fun _ _=>VRel.mono l1)) fun D x l2=>zS fun n=>zd ?_
   refine .slice _ _ (.some ?_)
   split
   ·exact ha.mono l2
   ·exact (ha.mono l2).add _
  | _=>exact ze
 | _=>cases hv<;>exact ze
theorem sliceAt_r (hB:Based P B) (t:TypeId) {v v':Value} (hv:VRel B v v') {l l' h h' m m':Option Value} (hl:OR (VRel B) l l') (hh:OR (VRel B) h h') (hm:OR (VRel B) m m') :
  SRel P (swap P fs) VR B (Instr.sliceAt t v l h m) (Instr.sliceAt t v' l' h' m'):=by
 unfold Instr.sliceAt
 refine zm fun d _=>?_
 cases d with
 | array n elem =>
  refine (yS hv).bind fun C a a' l1 ha=>?_
  refine zb (yp (hB.mono l1) _ _ _ (hl.mono fun _ _=>VRel.mono l1) (hh.mono fun _ _=>VRel.mono l1) (hm.mono fun _ _=>VRel.mono l1)) fun D x l2=>zS fun n=>zd ?_
  refine .slice _ _ (.some ?_)
  split
  ·exact ha.mono l2
  ·exact (ha.mono l2).add _
 | _=>exact slice_r hB t hv hl hh hm
end
end
end Go.Par
