/- Walks: Write at a net without lines (by gen_wr.py). -/
import Derived.Test.YtpbjpochjagicaaGreatDoorRRSf
import Derived.Test.YtpbjpochjagicaaGreatDoorRRW4
import Derived.Test.YtpbjpochjagicaaGreatDoorRRW20
import Derived.Test.YtpbjpochjagicaaGreatDoorRRRl
import Derived.Deep.DeepCutAuto
namespace Go.Proofs.YtpbjpochjagicaaGreatDoorRR
open Go.RowKit

theorem itoa_1 (w : World) : Calls Tryz.prog 62 #[.int .i64 1] w fun e w' => e = .returned (.string ⟨#[49]⟩) ∧ w' = w := by
  have h := Tryz.strconv_Itoa_small 1 (by decide) w
  have e : Lib.decDigits 1 = [49] := by kernel_rfl
  rw [e] at h
  exact h
theorem itoa_2 (w : World) : Calls Tryz.prog 62 #[.int .i64 2] w fun e w' => e = .returned (.string ⟨#[50]⟩) ∧ w' = w := by
  have h := Tryz.strconv_Itoa_small 2 (by decide) w
  have e : Lib.decDigits 2 = [50] := by kernel_rfl
  rw [e] at h
  exact h
theorem itoa_4 (w : World) : Calls Tryz.prog 62 #[.int .i64 4] w fun e w' => e = .returned (.string ⟨#[52]⟩) ∧ w' = w := by
  have h := Tryz.strconv_Itoa_small 4 (by decide) w
  have e : Lib.decDigits 4 = [52] := by kernel_rfl
  rw [e] at h
  exact h
theorem itoa_12 (w : World) : Calls Tryz.prog 62 #[.int .i64 12] w fun e w' => e = .returned (.string ⟨#[49, 50]⟩) ∧ w' = w := by
  have h := Tryz.strconv_Itoa_small 12 (by decide) w
  have e : Lib.decDigits 12 = [49, 50] := by kernel_rfl
  rw [e] at h
  exact h
set_option maxRecDepth 20000 in
theorem named_stops (w : World) : Calls Tryz.prog 49 #[.string ⟨#[115, 116, 111, 112, 115]⟩, .int .i64 4] w fun e w' => e = .returned (.string ⟨#[32, 115, 116, 111, 112, 115, 61, 52]⟩) ∧ w' = w := by
  go_enter Tryz.func49, Tryz.ntmps49
  go_wp2_with (go_at_call 62; refine (itoa_4 _).mono ?_; rintro e w' ⟨rfl, rfl⟩)
  go_ret
  exact ⟨by kernel_rfl, rfl⟩
set_option maxRecDepth 20000 in
theorem named_at (w : World) : Calls Tryz.prog 49 #[.string ⟨#[97, 116]⟩, .int .i64 1] w fun e w' => e = .returned (.string ⟨#[32, 97, 116, 61, 49]⟩) ∧ w' = w := by
  go_enter Tryz.func49, Tryz.ntmps49
  go_wp2_with (go_at_call 62; refine (itoa_1 _).mono ?_; rintro e w' ⟨rfl, rfl⟩)
  go_ret
  exact ⟨by kernel_rfl, rfl⟩
set_option maxRecDepth 20000 in
theorem named_size (w : World) : Calls Tryz.prog 49 #[.string ⟨#[115, 105, 122, 101]⟩, .int .i64 4] w fun e w' => e = .returned (.string ⟨#[32, 115, 105, 122, 101, 61, 52]⟩) ∧ w' = w := by
  go_enter Tryz.func49, Tryz.ntmps49
  go_wp2_with (go_at_call 62; refine (itoa_4 _).mono ?_; rintro e w' ⟨rfl, rfl⟩)
  go_ret
  exact ⟨by kernel_rfl, rfl⟩
set_option maxRecDepth 20000 in
theorem named_load (w : World) : Calls Tryz.prog 49 #[.string ⟨#[108, 111, 97, 100]⟩, .int .i64 12] w fun e w' => e = .returned (.string ⟨#[32, 108, 111, 97, 100, 61, 49, 50]⟩) ∧ w' = w := by
  go_enter Tryz.func49, Tryz.ntmps49
  go_wp2_with (go_at_call 62; refine (itoa_12 _).mono ?_; rintro e w' ⟨rfl, rfl⟩)
  go_ret
  exact ⟨by kernel_rfl, rfl⟩

/-- An own row of texts. -/
def OwnStrs (w : World) (base : Nat) (A : Option Addr) (c : Nat) (ts : List ByteArray) : Prop := w.ownsRow base 9 1 (.slice A ts.length c) ts.length (ts.map Value.string)
theorem OwnStrs.nil (w : World) (base : Nat) : OwnStrs w base none 0 [] := ⟨by simp, .inl ⟨rfl, rfl⟩⟩
theorem str_info : (Tryz.prog.info? 9).map (fun i => (i.zero, i.size, i.bytes)) = some (some (.string ⟨#[]⟩), 1, 16) := by kernel_rfl
theorem wpl_app_strs {P : Program} {w : World} {ops : Array Oper} {rest : List Oper} {o : Oper} {a : Act} {Q : Exit → Act → World → Prop} (hgd : o.guard = none) (s x : Operand) (t : TypeId)
    (ho : o.op = .call { callee := .builtin .append, args := #[s, x], argTypes := #[t, t] })
    (base : Nat) (ht : P.underlying t = some (.slice 9)) (hi : (P.info? 9).map (fun i => (i.zero, i.size, i.bytes)) = some (some (.string ⟨#[]⟩), 1, 16))
    (A : Option Addr) (c : Nat) (xs : List ByteArray) (hs : a.eval s = .slice A xs.length c) (hown : OwnStrs w base A c xs)
    (B : Nat) (A' : Option Addr) (c' : Nat) (y : ByteArray) (hx : a.eval x = .slice A' 1 c') (hr : Reads w B 1 A' 1 [.string y])
    (hlen : (xs.length + 1) * 16 ≤ 140737488355328) (hbase : base ≤ w.heap.size)
    (h : ∀ A2 c2 w', OwnStrs w' base A2 c2 (xs ++ [y]) → w.grownBy w' (Value.slice A xs.length c).ownBlock → wpList P ops Q rest (a.put o.dst (.slice A2 (xs ++ [y]).length c2)) w') : wpList P ops Q (o :: rest) a w := by
  obtain ⟨i, h1, h2, h3, h4⟩ := info_parts hi
  refine wpList_append_any w hgd s x t ho base 9 i (.string ⟨#[]⟩) 1 16 ht h1 h2 h3 h4 rfl (by omega) (.slice A xs.length c) xs.length (xs.map Value.string) hs hown B A' 1 c' [.string y] hx hr
    (fun u hu => by simp at hu; subst hu; rfl) (by simp only [maxLen]; omega) (by omega) hbase ?_
  intro v' w' hown' hg hat
  obtain ⟨A2, c2, rfl⟩ := own_slice hown'
  have e : xs.map Value.string ++ [.string y] = (xs ++ [y]).map Value.string := by simp
  have hl : xs.length + 1 = (xs ++ [y]).length := by simp
  rw [e, hl] at hown'
  rw [hl]
  exact h A2 c2 w' hown' hg
/-- The literal row of one text. -/
theorem str_one (w : World) (s : ByteArray) : Reads (w.alloc (.cells #[.string s] 9)) (w.alloc (.cells #[.string s] 9)).heap.size 1 (some ⟨w.heap.size, 0, none⟩) 1 [.string s] :=
  Reads.of_own (base := w.heap.size) (World.ownsRow_lit w #[.string s] 1 (Nat.le_refl _) (by decide) (by simp) : (w.alloc (.cells #[.string s] 9)).ownsRow w.heap.size 9 1 (.slice (some ⟨w.heap.size, 0, none⟩) 1 1) 1 [.string s])
theorem strs_from {w : World} {base : Nat} {A : Option Addr} {n c : Nat} {xs : List ByteArray} (h : OwnStrs w base A c xs) : ∀ k, (Value.slice A n c).ownBlock = some k → base ≤ k := fun k hk => by
  rcases h.2 with ⟨h1, h2⟩ | ⟨g, cap, cur, hv, hg, r⟩
  · injection h1 with e1 e2 e3
    subst e1
    simp [Value.ownBlock] at hk
  · injection hv with e1 e2 e3
    subst e1
    simp [Value.ownBlock] at hk
    omega
theorem strs_form {w : World} {base : Nat} {A : Option Addr} {c : Nat} {ts : List ByteArray} (h : OwnStrs w base A c ts) (hn : 0 < ts.length) :
    ∃ g, A = some ⟨g, 0, none⟩ ∧ g < w.heap.size ∧ ts.length ≤ c ∧ ∀ (j : Nat) x, ts[j]? = some x → w.cell? ⟨g, 0 + j, none⟩ = some (.string x) := by
  have hc := h.2
  obtain ⟨ad, rfl, hlt, hcell⟩ := (Reads.of_own h).2 hn
  rcases hc with ⟨h1, h2⟩ | ⟨g, cap, cur, hv, hg, hh, hcap, r⟩
  · omega
  · injection hv with e1 e2 e3
    injection e1 with e1
    subst e1 e3
    refine ⟨g, rfl, hlt, hcap, fun j x hx => ?_⟩
    have := hcell j (.string x) (by rw [List.getElem?_map, hx]; rfl)
    rw [← this]
    congr 1
    unfold Addr.add
    split <;> simp_all
def listText (ns : List Nat) : List UInt8 := if ns = [] then [45] else Lib.join (ns.map Lib.decDigits) [43]
def texts (ns : List Nat) : List ByteArray := ns.map fun k => ⟨(Lib.decDigits k).toArray⟩

set_option maxRecDepth 20000 in
theorem list_any (A0 : Option Addr) (c0 : Nat) (ns : List Nat) (w : World) (hI : Ints w w.heap.size A0 (ns.map fun k : Nat => (k : Int))) (h1 : ∀ k ∈ ns, k < 100) (hl : ns.length ≤ 1000) (hj : (Lib.join (ns.map Lib.decDigits) [43]).length ≤ 140737488355328) :
    Calls Tryz.prog 50 #[.slice A0 ns.length c0] w fun e w' => e = .returned (.string ⟨(listText ns).toArray⟩) ∧ Below w.heap.size w w' := by
  have HJ := Lib.hid hj
  have HL := Lib.hid hl
  have H1 := Lib.hid h1
  clear hj h1
  rcases hI.form with h0 | ⟨b, off, rfl, hb, hc⟩
  · obtain rfl : ns = [] := by simpa using h0
    have HT : Hid (listText [] = [45]) := rfl
    generalize listText [] = T at HT ⊢
    clear HJ H1 HL hI h0
    go_enter Tryz.func50, Tryz.ntmps50
    go_wp2_with fail
    go_ret
    rw [HT.out]
    exact ⟨rfl, Below.refl _ _⟩
  · by_cases hz : ns = []
    · subst hz
      have HT : Hid (listText [] = [45]) := rfl
      generalize listText [] = T at HT ⊢
      clear HJ H1 HL hI hc
      go_enter Tryz.func50, Tryz.ntmps50
      go_wp2_with fail
      go_ret
      rw [HT.out]
      exact ⟨rfl, Below.refl _ _⟩
    · have hpos : 0 < ns.length := List.length_pos_iff.2 hz
      have HT : Hid (listText ns = Lib.join (ns.map Lib.decDigits) [43]) := if_neg hz
      generalize listText ns = T at HT ⊢
      have HC : Hid (∀ W, Below w.heap.size w W → ∀ k (hk : k < ns.length), W.cell? ⟨b, off + k, none⟩ = some (.int .i64 (ns[k] : Nat))) := fun W hW k hk => by
        have h := hc k (by simpa using hk)
        rw [List.getElem_map] at h
        rw [← h]
        exact hW.cell (by simpa using hb)
      clear hI hc hz
      have hp0 : ((ns.length : Int) == 0) = false := by rw [beq_eq_false_iff_ne]; omega
      go_enter Tryz.func50, Tryz.ntmps50
      go_wp2_with fail
      go_loopw [3, 11] (fun v iv wr => ∃ (k : Nat) (A : Option Addr) (c : Nat), k ≤ ns.length ∧ v = .slice A (texts (ns.take k)).length c ∧ iv = .int .i64 k ∧ Hid (OwnStrs wr w.heap.size A c (texts (ns.take k))) ∧ Hid (Below w.heap.size w wr)) (fun _ iv _ => ns.length - (intOf iv).toNat)
      case atStart => exact ⟨0, none, 0, Nat.zero_le _, rfl, rfl, OwnStrs.nil _ _, Below.refl _ _⟩
      case round =>
        obtain ⟨k, A, c, hk, rfl, rfl, hO, hB⟩ := hrel
        have hsz := hB.out.size
        by_cases hkl : k < ns.length
        · have hki : (k : Int) < (ns.length : Int) := by omega
          have hcell := HC.out wr hB.out k hkl
          obtain ⟨m, hm⟩ : ∃ m, ns[k] = m := ⟨_, rfl⟩
          have hm1 : m < 100 := by rw [← hm]; exact H1.out _ (List.getElem_mem hkl)
          have HTK : Hid (texts (ns.take (k + 1)) = texts (ns.take k) ++ [⟨(Lib.decDigits m).toArray⟩]) := by
            show _ = _
            unfold texts
            rw [List.take_succ_eq_append_getElem hkl, List.map_append, hm]
            rfl
          rw [hm] at hcell
          have htl : (texts (ns.take k)).length = k := by unfold texts; rw [List.length_map, List.length_take]; omega
          have HTL := Lib.hid htl
          clear hm htl
          generalize texts (ns.take k) = ts at hO HTK HTL ⊢
          go_wp2_with (first
            | (go_at_call 62; refine (Tryz.strconv_Itoa_small m hm1 _).mono ?_; rintro e w' ⟨rfl, rfl⟩)
            | (at_builtin; refine wpl_app_strs rfl (.tmp 15) (.tmp 18) 123 rfl w.heap.size Tryz.underlying123 str_info A c ts rfl (World.ownsRow.alloc hO.out _) _ _ 1 ⟨(Lib.decDigits m).toArray⟩ rfl (str_one _ _) (by have := HTL.out; have := HL.out; omega) (by simp; omega) ?_; intro A2 c2 w4 hown4 hg4; have HO4 := Lib.hid hown4; have HB4 := Lib.hid ((hB.out.alloc hsz (.cells #[.string ⟨(Lib.decDigits m).toArray⟩] 9)).grown hg4 (by simp; omega) (strs_from hO.out)); clear hown4 hg4))
          go_roundw
          case rel => exact ⟨k + 1, A2, c2, by omega, by rw [HTK.out]; simp, by go_num, (by show OwnStrs _ _ _ _ _; rw [HTK.out]; exact HO4.out), HB4⟩
          case measure => simp [intOf]; omega
        · obtain rfl : k = ns.length := by omega
          have hki : ¬ ((ns.length : Int) < (ns.length : Int)) := by omega
          rw [List.take_length] at hO ⊢
          have HLT : Hid ((texts ns).length = ns.length) := by show _ = _; unfold texts; rw [List.length_map]
          obtain ⟨g, rfl, hg, hcp, hcl⟩ := strs_form hO.out (by have := HLT.out; omega)
          have HCP := Lib.hid hcp
          have HCL := Lib.hid hcl
          have HJ2 : Hid (Lib.join ((texts ns).map (·.data.toList)) [43] = T) := by
            show _ = _
            rw [HT.out]
            unfold texts
            rw [List.map_map]
            rfl
          have HLJ : Hid ((Lib.join ((texts ns).map (·.data.toList)) [43]).length ≤ 140737488355328) := by
            show _ ≤ _
            rw [HJ2.out, HT.out]
            exact HJ.out
          clear HC H1 HT HJ hcp hcl
          go_wp2_with (go_at_call 63; refine (Tryz.strings_Join g 0 c (texts ns) ⟨#[43]⟩ _ HCL.out hg (by have := HLT.out; omega) HCP.out HLJ.out).mono ?_; rintro e w5 ⟨rfl, hb5⟩; have HB5 := Lib.hid (hB.out.trans (hb5.mono hsz)); clear hb5)
          go_ret
          exact ⟨by rw [← HJ2.out]; rfl, HB5.out⟩

theorem list_12 (A : Option Addr) (c : Nat) (w : World) (hI : Ints w w.heap.size A [1, 2]) : Calls Tryz.prog 50 #[.slice A 2 c] w fun e w' => e = .returned (.string ⟨#[49, 43, 50]⟩) ∧ Below w.heap.size w w' := by
  have e : listText [1, 2] = [49, 43, 50] := by kernel_rfl
  have h := list_any A c [1, 2] w hI (by decide) (by decide) (by have : (Lib.join ([1, 2].map Lib.decDigits) [43]).length = 3 := (by kernel_rfl); omega)
  rw [e] at h
  exact h
theorem list_1 (A : Option Addr) (c : Nat) (w : World) (hI : Ints w w.heap.size A [1]) : Calls Tryz.prog 50 #[.slice A 1 c] w fun e w' => e = .returned (.string ⟨#[49]⟩) ∧ Below w.heap.size w w' := by
  have e : listText [1] = [49] := by kernel_rfl
  have h := list_any A c [1] w hI (by decide) (by decide) (by have : (Lib.join ([1].map Lib.decDigits) [43]).length = 1 := (by kernel_rfl); omega)
  rw [e] at h
  exact h
theorem list_0 (A : Option Addr) (c : Nat) (w : World) (hI : Ints w w.heap.size A []) : Calls Tryz.prog 50 #[.slice A 0 c] w fun e w' => e = .returned (.string ⟨#[45]⟩) ∧ Below w.heap.size w w' := by
  have e : listText [] = [45] := by kernel_rfl
  have h := list_any A c [] w hI (by decide) (by decide) (by have : (Lib.join (([] : List Nat).map Lib.decDigits) [43]).length = 0 := (by kernel_rfl); omega)
  rw [e] at h
  exact h
theorem write_str (B b : Nat) (L L2 : List UInt8) (s : ByteArray) (w : World) (h : Lib.IsBuilder 99 5 B b (Lib.byteCells L) w) (hL : L ++ s.data.toList = L2) (hlen : (L.length + s.size).ble 140737488355328 = true) (hBw : B ≤ w.heap.size) :
    Calls Tryz.prog 48 #[.pointer (some ⟨b, 0, none⟩), .string s] w fun e w' => e = .returned (.tuple #[.int .i64 s.size, .nilIface]) ∧ Lib.IsBuilder 99 5 B b (Lib.byteCells L2) w' ∧ Below B w w' := by
  subst hL
  refine (Any.Builder_WriteString Tryz.lays166 Tryz.Builder_Extra_156 B b (Lib.byteCells L) s w h (by have := Nat.le_of_ble_eq_true hlen; simpa [Lib.byteCells] using this) hBw).mono ?_
  rintro e w' ⟨rfl, hb, hw⟩
  refine ⟨rfl, Or.inr ?_, hw⟩
  rw [show Lib.byteCells (L ++ s.data.toList) = Lib.byteCells L ++ Lib.strCells s by simp [Lib.byteCells, Lib.strCells]]
  exact hb
theorem built_below {T e : TypeId} {B b : Nat} {bs : List Value} {w w' : World} (h : Lib.IsBuilder T e B b bs w) (hb : Below w.heap.size w w') : Lib.IsBuilder T e B b bs w' := by
  have key : ∀ p, Lib.BuilderAt T e B b p bs w → Lib.BuilderAt T e B b p bs w' := by
    rintro p ⟨h1, v, h2, h3, h4⟩
    refine ⟨h1, v, (hb.block b (lt_of_block h2)).trans h2, ⟨h3.1, ?_⟩, h4⟩
    rcases h3.2 with h5 | ⟨g, cap, cur, hv, hg, hh, r⟩
    · exact .inl h5
    · exact .inr ⟨g, cap, cur, hv, hg, (hb.block g (lt_of_block hh)).trans hh, r⟩
  exact h.imp (key _) (key _)
def loneN : Pl.Nt := ⟨4, [], [1]⟩
def wrT0 : List UInt8 := [110, 101, 116, 32, 115, 116, 111, 112, 115, 61, 52, 10]
def wrT1 : List UInt8 := [110, 101, 116, 32, 115, 116, 111, 112, 115, 61, 52, 10, 115, 104, 111, 112, 32, 97, 116, 61, 49, 10]
def wrT2 : List UInt8 := [110, 101, 116, 32, 115, 116, 111, 112, 115, 61, 52, 10, 115, 104, 111, 112, 32, 97, 116, 61, 49, 10, 99, 97, 114, 32, 103, 97, 117, 103, 101, 115, 61, 49, 43, 50, 32, 115, 105, 122, 101, 61, 52, 32, 108, 111, 97, 100, 61, 49, 50, 32, 98, 114, 97, 107, 101, 115, 61, 49, 32, 104, 101, 97, 116, 115, 61, 45]
def wrText : List UInt8 := [110, 101, 116, 32, 115, 116, 111, 112, 115, 61, 52, 10, 115, 104, 111, 112, 32, 97, 116, 61, 49, 10, 99, 97, 114, 32, 103, 97, 117, 103, 101, 115, 61, 49, 43, 50, 32, 115, 105, 122, 101, 61, 52, 32, 108, 111, 97, 100, 61, 49, 50, 32, 98, 114, 97, 107, 101, 115, 61, 49, 32, 104, 101, 97, 116, 115, 61, 45, 10, 101, 110, 100, 10]

set_option maxRecDepth 20000 in
set_option maxHeartbeats 8000000 in
theorem write_lone (sA : Option Addr) (sc : Nat) (gA bA hA : Option Addr) (gc bc hc : Nat) (w : World) (hn : NReads w w.heap.size loneN none sA 0 sc) (hr : CReads w w.heap.size Pl.carK gA bA hA gc bc hc) :
    Calls Tryz.prog 20 #[.agg #[.int .i64 4, .slice none 0 0, .slice sA 1 sc], .agg #[.slice gA 2 gc, .int .i64 4, .int .i64 12, .slice bA 1 bc, .slice hA 0 hc, .bool false]] w
      fun e w' => e = .returned (.tuple #[.string ⟨wrText.toArray⟩, .int .i64 0]) ∧ Below w.heap.size w w' := by
  have hb2 : Below w.heap.size w ((w.alloc (.cells #[.int .i64 4, .slice none 0 0, .slice sA 1 sc] 25)).alloc (.cells #[.slice gA 2 gc, .int .i64 4, .int .i64 12, .slice bA 1 bc, .slice hA 0 hc, .bool false] 28)) := ((Below.refl _ _).alloc (Nat.le_refl _) _).alloc (by simp) _
  have m0 := blk_alloc (heap_alloc_new w (.cells #[.int .i64 4, .slice none 0 0, .slice sA 1 sc] 25)) (.cells #[.slice gA 2 gc, .int .i64 4, .int .i64 12, .slice bA 1 bc, .slice hA 0 hc, .bool false] 28)
  have m1 : ((w.alloc (.cells #[.int .i64 4, .slice none 0 0, .slice sA 1 sc] 25)).alloc (.cells #[.slice gA 2 gc, .int .i64 4, .int .i64 12, .slice bA 1 bc, .slice hA 0 hc, .bool false] 28)).heap[w.heap.size + 1]? = some (.cells #[.slice gA 2 gc, .int .i64 4, .int .i64 12, .slice bA 1 bc, .slice hA 0 hc, .bool false] 28 (0, 0)) := by
    have := heap_alloc_new (w.alloc (.cells #[.int .i64 4, .slice none 0 0, .slice sA 1 sc] 25)) (.cells #[.slice gA 2 gc, .int .i64 4, .int .i64 12, .slice bA 1 bc, .slice hA 0 hc, .bool false] 28)
    simpa using this
  have HBO := Lib.hid (both_any loneN none sA 0 sc Pl.carK gA bA hA gc bc hc _ ((hn.below hb2).more hb2.size) ((hr.below hb2).more hb2.size))
  have hbv : Pl.both loneN Pl.carK = 0 := by kernel_rfl
  rw [hbv] at HBO
  obtain ⟨sb, so, rfl, hsb, hsc⟩ : ∃ sb so, sA = some ⟨sb, so, none⟩ ∧ sb < w.heap.size ∧ w.cell? ⟨sb, so, none⟩ = some (.int .i64 1) := by
    rcases hn.shops.form with h | ⟨b, off, rfl, hb, hc⟩
    · cases h
    · exact ⟨b, off, rfl, hb, hc 0 (by decide)⟩
  have hsz2 : ((w.alloc (.cells #[.int .i64 4, .slice none 0 0, .slice (some ⟨sb, so, none⟩) 1 sc] 25)).alloc (.cells #[.slice gA 2 gc, .int .i64 4, .int .i64 12, .slice bA 1 bc, .slice hA 0 hc, .bool false] 28)).heap.size = w.heap.size + 2 := by simp
  obtain ⟨w2, hw2⟩ : ∃ w2, w2 = ((w.alloc (.cells #[.int .i64 4, .slice none 0 0, .slice (some ⟨sb, so, none⟩) 1 sc] 25)).alloc (.cells #[.slice gA 2 gc, .int .i64 4, .int .i64 12, .slice bA 1 bc, .slice hA 0 hc, .bool false] 28)) := ⟨_, rfl⟩
  rw [← hw2] at hb2 m0 m1 HBO hsz2
  have HW2 := Lib.hid hw2
  have HB2 := Lib.hid hb2
  have HS2 := Lib.hid hsz2
  have HKN : Hid (∀ W, Below w2.heap.size w2 W → W.cell? ⟨w.heap.size, 0, none⟩ = some (.int .i64 4) ∧ W.cell? ⟨w.heap.size, 1, none⟩ = some (.slice none 0 0) ∧ W.cell? ⟨w.heap.size, 2, none⟩ = some (.slice (some ⟨sb, so, none⟩) 1 sc) ∧ W.cell? ⟨sb, so, none⟩ = some (.int .i64 1)) := fun W hW => by
    have h0 := blk_below m0 hW (lt_of_block m0)
    exact ⟨blk_cell h0 0, blk_cell h0 1, blk_cell h0 2, ((hb2.trans (hW.mono hb2.size)).cell (p := ⟨sb, so, none⟩) hsb).trans hsc⟩
  have HKC : Hid (∀ W, Below w2.heap.size w2 W → ((W.cell? ⟨w.heap.size + 1, 0, none⟩ = some (.slice gA 2 gc) ∧ W.cell? ⟨w.heap.size + 1, 1, none⟩ = some (.int .i64 4) ∧ W.cell? ⟨w.heap.size + 1, 2, none⟩ = some (.int .i64 12) ∧ W.cell? ⟨w.heap.size + 1, 3, none⟩ = some (.slice bA 1 bc) ∧ W.cell? ⟨w.heap.size + 1, 4, none⟩ = some (.slice hA 0 hc) ∧ W.cell? ⟨w.heap.size + 1, 5, none⟩ = some (.bool false)))) := fun W hW => by
    have h0 := blk_below m1 hW (lt_of_block m1)
    exact ⟨blk_cell h0 0, blk_cell h0 1, blk_cell h0 2, blk_cell h0 3, blk_cell h0 4, blk_cell h0 5⟩
  have HIG : Hid (∀ W, Below w2.heap.size w2 W → Ints W W.heap.size gA [1, 2]) := fun W hW => by
    have h := hb2.trans (hW.mono hb2.size)
    exact (hr.gauges.below h).more h.size
  have HIB : Hid (∀ W, Below w2.heap.size w2 W → Ints W W.heap.size bA [1]) := fun W hW => by
    have h := hb2.trans (hW.mono hb2.size)
    exact (hr.brakes.below h).more h.size
  have HIH : Hid (∀ W, Below w2.heap.size w2 W → Ints W W.heap.size hA []) := fun W hW => by
    have h := hb2.trans (hW.mono hb2.size)
    exact (hr.heats.below h).more h.size
  obtain ⟨x0, x1, x2, x3⟩ := HKN.out _ (Below.refl _ _)
  obtain ⟨y0, y1, y2, y3, y4, y5⟩ := HKC.out _ (Below.refl _ _)
  clear hn hr hb2 m0 m1 hsc hsz2 hw2 hbv
  go_enter Tryz.func20, Tryz.ntmps20
  go_upto_region 1 with fail
  rw [← HW2.out]
  go_upto_region 4 with (go_at_call 24; refine HBO.out.mono ?_; rintro e w3 ⟨rfl, hb3⟩; have HB3 := Lib.hid hb3; clear hb3 x0 x1 x2 x3 y0 y1 y2 y3 y4 y5)
  go_upto_region 5 with fail
  have hbd := Lib.fresh_isBuilder 99 5 w3
  have hb4 : Below w2.heap.size w2 (w3.alloc (.cells #[.pointer none, .slice none 0 0] 99)) := HB3.out.alloc HB3.out.size _
  have hb3 : w3.heap.size ≤ (w3.alloc (.cells #[.pointer none, .slice none 0 0] 99)).heap.size := by simp
  have HSZ3 := HB3.out.size
  generalize w3.alloc (.cells #[.pointer none, .slice none 0 0] 99) = w4 at hbd hb4 hb3 ⊢
  generalize w3.heap.size = b at hbd hb3 HSZ3 ⊢
  have HBD : Hid (Lib.IsBuilder 99 5 b b (Lib.byteCells []) w4) := hbd
  have HB4 := Lib.hid hb4
  have HBB := Lib.hid hb3
  clear hbd hb4 hb3 HB3 w3
  obtain ⟨x0, x1, x2, x3⟩ := HKN.out _ HB4.out
  go_upto_region 6 with (first
    | (go_at_call 49; refine (named_stops _).mono ?_; rintro e w' ⟨rfl, rfl⟩)
    | (go_at_call 48; refine (write_str b b [] wrT0 _ _ HBD.out (by kernel_rfl) (by kernel_rfl) HBB.out).mono ?_; rintro e w5 ⟨rfl, hbd5, hb5⟩; have HBD5 := Lib.hid hbd5; have HB5 := Lib.hid (HB4.out.trans (hb5.mono HSZ3)); have HBB5 := Lib.hid (Nat.le_trans HBB.out hb5.size); clear hbd5 hb5 x0 x1 x2 x3))
  obtain ⟨x0, x1, x2, x3⟩ := HKN.out _ HB5.out
  go_wp2_with fail
  go_loopw [27] (fun iv wr => ∃ k : Nat, k ≤ 1 ∧ iv = .int .i64 k ∧ Hid (Lib.IsBuilder 99 5 b b (Lib.byteCells (if k = 0 then wrT0 else wrT1)) wr) ∧ Hid (Below w2.heap.size w2 wr) ∧ Hid (b ≤ wr.heap.size)) (fun iv _ => 1 - (intOf iv).toNat)
  case atStart => exact ⟨0, by omega, rfl, HBD5.out, HB5.out, HBB5.out⟩
  case round =>
    obtain ⟨k, hk, rfl, hD, hB, hBB⟩ := hrel
    clear HBD5 HB5 HBB5 x0 x1 x2 x3
    obtain ⟨x0, x1, x2, x3⟩ := HKN.out _ hB.out
    rcases (show k = 0 ∨ k = 1 by omega) with rfl | rfl
    · have hD0 : Hid (Lib.IsBuilder 99 5 b b (Lib.byteCells wrT0) wr) := hD
      clear hD
      go_wp2_with (first
        | (go_at_call 49; refine (named_at _).mono ?_; rintro e w' ⟨rfl, rfl⟩)
        | (go_at_call 48; refine (write_str b b wrT0 wrT1 _ _ hD0.out (by kernel_rfl) (by kernel_rfl) hBB.out).mono ?_; rintro e w6 ⟨rfl, hbd6, hb6⟩; have HBD6 := Lib.hid hbd6; have HB6 := Lib.hid (hB.out.trans (hb6.mono HSZ3)); have HBB6 := Lib.hid (Nat.le_trans hBB.out hb6.size); clear hbd6 hb6 x0 x1 x2 x3))
      go_roundw
      case rel => exact ⟨1, by omega, by go_num, HBD6, HB6, HBB6⟩
      case measure => simp [intOf]
    · have hD1 : Hid (Lib.IsBuilder 99 5 b b (Lib.byteCells wrT1) wr) := hD
      clear hD
      go_wp2_with fail
      go_loop [40] (fun i => i = .int .i64 0) (fun _ => 0)
      case atStart => rfl
      case round =>
        obtain rfl := hrel
        go_upto_region 19 with fail
        go_cut [104] (fun v wx => Hid (Lib.IsBuilder 99 5 b b (Lib.byteCells wrT2) wx) ∧ Hid (Below w2.heap.size w2 wx) ∧ Hid (b ≤ wx.heap.size))
        case first =>
          have hS := HKC.out _ hB.out.drew
          refine wp_region_L (by kernel_rfl) (fun W => ((W.cell? ⟨w.heap.size + 1, 0, none⟩ = some (.slice gA 2 gc) ∧ W.cell? ⟨w.heap.size + 1, 1, none⟩ = some (.int .i64 4) ∧ W.cell? ⟨w.heap.size + 1, 2, none⟩ = some (.int .i64 12) ∧ W.cell? ⟨w.heap.size + 1, 3, none⟩ = some (.slice bA 1 bc) ∧ W.cell? ⟨w.heap.size + 1, 4, none⟩ = some (.slice hA 0 hc) ∧ W.cell? ⟨w.heap.size + 1, 5, none⟩ = some (.bool false)))) [] ?_
          refine wpAnyL_take (i := 0) (v := ?va_0) rfl (by kernel_rfl) (by kernel_rfl) (by kernel_rfl) (by kernel_rfl) (by rfl) (fun _ _ _ h => h) hS (Or.inl ⟨by rfl, ?hya_0⟩) ?hra_0
          case hya_0 => (intro w hSw; (try dsimp only at hSw); go_simp; (try rfl))
          simp only [List.getElem_toArray, List.getElem_cons_zero, Act.put, List.setIfInBounds_toArray, List.set_cons_zero, List.set_cons_succ]
          refine wpAnyL_take (i := 1) (v := ?va_1) rfl (by kernel_rfl) (by kernel_rfl) (by kernel_rfl) (by kernel_rfl) (by rfl) (fun _ _ _ h => h) hS (Or.inl ⟨by rfl, ?hya_1⟩) ?hra_1
          case hya_1 => (intro w hSw; (try dsimp only at hSw); go_simp; (try rfl))
          simp only [List.getElem_toArray, List.getElem_cons_succ, List.getElem_cons_zero, Act.put, List.setIfInBounds_toArray, List.set_cons_zero, List.set_cons_succ]
          refine wpAnyL_take (i := 4) (v := ?va_4) rfl (by kernel_rfl) (by kernel_rfl) (by kernel_rfl) (by kernel_rfl) (by rfl) (fun _ _ _ h => h) hS (Or.inl ⟨by rfl, ?hya_4⟩) ?hra_4
          case hya_4 => (intro w hSw; (try dsimp only at hSw); go_simp; (try rfl))
          simp only [List.getElem_toArray, List.getElem_cons_succ, List.getElem_cons_zero, Act.put, List.setIfInBounds_toArray, List.set_cons_zero, List.set_cons_succ]
          refine wpAnyL_take (i := 5) (v := ?va_5) rfl (by kernel_rfl) (by kernel_rfl) (by kernel_rfl) (by kernel_rfl) (by rfl) (fun _ _ _ h => h) hS (Or.inl ⟨by rfl, ?hya_5⟩) ?hra_5
          case hya_5 => (intro w hSw; (try dsimp only at hSw); go_simp; (try rfl))
          simp only [List.getElem_toArray, List.getElem_cons_succ, List.getElem_cons_zero, Act.put, List.setIfInBounds_toArray, List.set_cons_zero, List.set_cons_succ]
          refine wpAnyL_take (i := 8) (v := ?va_8) rfl (by kernel_rfl) (by kernel_rfl) (by kernel_rfl) (by kernel_rfl) (by rfl) (fun _ _ _ h => h) hS (Or.inl ⟨by rfl, ?hya_8⟩) ?hra_8
          case hya_8 => (intro w hSw; (try dsimp only at hSw); go_simp; (try rfl))
          simp only [List.getElem_toArray, List.getElem_cons_succ, List.getElem_cons_zero, Act.put, List.setIfInBounds_toArray, List.set_cons_zero, List.set_cons_succ]
          refine wpAnyL_take (i := 9) (v := ?va_9) rfl (by kernel_rfl) (by kernel_rfl) (by kernel_rfl) (by kernel_rfl) (by rfl) (fun _ _ _ h => h) hS (Or.inl ⟨by rfl, ?hya_9⟩) ?hra_9
          case hya_9 => (intro w hSw; (try dsimp only at hSw); go_simp; (try rfl))
          simp only [List.getElem_toArray, List.getElem_cons_succ, List.getElem_cons_zero, Act.put, List.setIfInBounds_toArray, List.set_cons_zero, List.set_cons_succ]
          refine wpAnyL_take (i := 13) (v := ?va_13) rfl (by kernel_rfl) (by kernel_rfl) (by kernel_rfl) (by kernel_rfl) (by rfl) (fun _ _ _ h => h) hS (Or.inl ⟨by rfl, ?hya_13⟩) ?hra_13
          case hya_13 => (intro w hSw; (try dsimp only at hSw); go_simp; (try rfl))
          simp only [List.getElem_toArray, List.getElem_cons_succ, List.getElem_cons_zero, Act.put, List.setIfInBounds_toArray, List.set_cons_zero, List.set_cons_succ]
          refine wpAnyL_take (i := 14) (v := ?va_14) rfl (by kernel_rfl) (by kernel_rfl) (by kernel_rfl) (by kernel_rfl) (by rfl) (fun _ _ _ h => h) hS (Or.inl ⟨by rfl, ?hya_14⟩) ?hra_14
          case hya_14 => (intro w hSw; (try dsimp only at hSw); go_simp; (try rfl))
          simp only [List.getElem_toArray, List.getElem_cons_succ, List.getElem_cons_zero, Act.put, List.setIfInBounds_toArray, List.set_cons_zero, List.set_cons_succ]
          refine wpAnyL_take (i := 18) (v := ?va_18) rfl (by kernel_rfl) (by kernel_rfl) (by kernel_rfl) (by kernel_rfl) (by rfl) (fun _ _ _ h => h) hS (Or.inl ⟨by rfl, ?hya_18⟩) ?hra_18
          case hya_18 => (intro w hSw; (try dsimp only at hSw); go_simp; (try rfl))
          simp only [List.getElem_toArray, List.getElem_cons_succ, List.getElem_cons_zero, Act.put, List.setIfInBounds_toArray, List.set_cons_zero, List.set_cons_succ]
          refine wpAnyL_take (i := 19) (v := ?va_19) rfl (by kernel_rfl) (by kernel_rfl) (by kernel_rfl) (by kernel_rfl) (by rfl) (fun _ _ _ h => h) hS (Or.inl ⟨by rfl, ?hya_19⟩) ?hra_19
          case hya_19 => (intro w hSw; (try dsimp only at hSw); go_simp; (try rfl))
          simp only [List.getElem_toArray, List.getElem_cons_succ, List.getElem_cons_zero, Act.put, List.setIfInBounds_toArray, List.set_cons_zero, List.set_cons_succ]
          refine wpAnyL_one (i := 2) rfl (by kernel_rfl) ?_
          intro Kq hKq
          go_simp
          refine (list_12 gA gc _ (HIG.out wr.drew hB.out.drew)).mono ?_
          rintro e u0 ⟨rfl, hb⟩
          have HDu0 : Hid (Lib.IsBuilder 99 5 b b (Lib.byteCells wrT1) u0) := built_below (w := wr.drew) hD1.out hb
          have HBu0 : Hid (Below w2.heap.size w2 u0) := Below.trans (b := wr.drew) hB.out.drew (hb.mono (Below.size (w' := wr.drew) hB.out.drew))
          have HSu0 : Hid (b ≤ u0.heap.size) := Nat.le_trans (m := World.heap wr.drew |>.size) hBB.out hb.size
          have hS := HKC.out _ HBu0.out
          refine hKq.out _ _ hS (fun _ => ?_)
          clear hKq Kq hb
          try simp only [Act.put, List.setIfInBounds_toArray, List.set_cons_zero, List.set_cons_succ]
          refine wpAnyL_take (i := 3) (v := ?vb_3) rfl (by kernel_rfl) (by kernel_rfl) (by kernel_rfl) (by kernel_rfl) (by rfl) (fun _ _ _ h => h) hS (Or.inl ⟨by rfl, ?hyb_3⟩) ?hrb_3
          case hyb_3 => (intro w hSw; (try dsimp only at hSw); go_simp; (try rfl))
          simp only [List.getElem_toArray, List.getElem_cons_succ, List.getElem_cons_zero, Act.put, List.setIfInBounds_toArray, List.set_cons_zero, List.set_cons_succ]
          refine wpAnyL_one (i := 6) rfl (by kernel_rfl) ?_
          intro Kq hKq
          go_simp
          refine (named_size _).mono ?_
          rintro e w' ⟨rfl, hw⟩
          replace hw := hw.symm
          subst hw
          refine hKq.out _ _ hS (fun _ => ?_)
          clear hKq Kq
          try simp only [Act.put, List.setIfInBounds_toArray, List.set_cons_zero, List.set_cons_succ]
          refine wpAnyL_take (i := 7) (v := ?vb_7) rfl (by kernel_rfl) (by kernel_rfl) (by kernel_rfl) (by kernel_rfl) (by rfl) (fun _ _ _ h => h) hS (Or.inl ⟨by rfl, ?hyb_7⟩) ?hrb_7
          case hyb_7 => (intro w hSw; (try dsimp only at hSw); go_simp; (try rfl))
          simp only [List.getElem_toArray, List.getElem_cons_succ, List.getElem_cons_zero, Act.put, List.setIfInBounds_toArray, List.set_cons_zero, List.set_cons_succ]
          refine wpAnyL_one (i := 10) rfl (by kernel_rfl) ?_
          intro Kq hKq
          go_simp
          refine (named_load _).mono ?_
          rintro e w' ⟨rfl, hw⟩
          replace hw := hw.symm
          subst hw
          refine hKq.out _ _ hS (fun _ => ?_)
          clear hKq Kq
          try simp only [Act.put, List.setIfInBounds_toArray, List.set_cons_zero, List.set_cons_succ]
          refine wpAnyL_take (i := 11) (v := ?vb_11) rfl (by kernel_rfl) (by kernel_rfl) (by kernel_rfl) (by kernel_rfl) (by rfl) (fun _ _ _ h => h) hS (Or.inl ⟨by rfl, ?hyb_11⟩) ?hrb_11
          case hyb_11 => (intro w hSw; (try dsimp only at hSw); go_simp; (try rfl))
          simp only [List.getElem_toArray, List.getElem_cons_succ, List.getElem_cons_zero, Act.put, List.setIfInBounds_toArray, List.set_cons_zero, List.set_cons_succ]
          refine wpAnyL_take (i := 12) (v := ?vb_12) rfl (by kernel_rfl) (by kernel_rfl) (by kernel_rfl) (by kernel_rfl) (by rfl) (fun _ _ _ h => h) hS (Or.inl ⟨by rfl, ?hyb_12⟩) ?hrb_12
          case hyb_12 => (intro w hSw; (try dsimp only at hSw); go_simp; (try rfl))
          simp only [List.getElem_toArray, List.getElem_cons_succ, List.getElem_cons_zero, Act.put, List.setIfInBounds_toArray, List.set_cons_zero, List.set_cons_succ]
          refine wpAnyL_one (i := 15) rfl (by kernel_rfl) ?_
          intro Kq hKq
          go_simp
          refine (list_1 bA bc _ (HIB.out u0 HBu0.out)).mono ?_
          rintro e u1 ⟨rfl, hb⟩
          have HDu1 : Hid (Lib.IsBuilder 99 5 b b (Lib.byteCells wrT1) u1) := built_below (w := u0) HDu0.out hb
          have HBu1 : Hid (Below w2.heap.size w2 u1) := Below.trans (b := u0) HBu0.out (hb.mono (Below.size (w' := u0) HBu0.out))
          have HSu1 : Hid (b ≤ u1.heap.size) := Nat.le_trans (m := World.heap u0 |>.size) HSu0.out hb.size
          have hS := HKC.out _ HBu1.out
          refine hKq.out _ _ hS (fun _ => ?_)
          clear hKq Kq hb
          try simp only [Act.put, List.setIfInBounds_toArray, List.set_cons_zero, List.set_cons_succ]
          refine wpAnyL_take (i := 16) (v := ?vb_16) rfl (by kernel_rfl) (by kernel_rfl) (by kernel_rfl) (by kernel_rfl) (by rfl) (fun _ _ _ h => h) hS (Or.inl ⟨by rfl, ?hyb_16⟩) ?hrb_16
          case hyb_16 => (intro w hSw; (try dsimp only at hSw); go_simp; (try rfl))
          simp only [List.getElem_toArray, List.getElem_cons_succ, List.getElem_cons_zero, Act.put, List.setIfInBounds_toArray, List.set_cons_zero, List.set_cons_succ]
          refine wpAnyL_take (i := 17) (v := ?vb_17) rfl (by kernel_rfl) (by kernel_rfl) (by kernel_rfl) (by kernel_rfl) (by rfl) (fun _ _ _ h => h) hS (Or.inl ⟨by rfl, ?hyb_17⟩) ?hrb_17
          case hyb_17 => (intro w hSw; (try dsimp only at hSw); go_simp; (try rfl))
          simp only [List.getElem_toArray, List.getElem_cons_succ, List.getElem_cons_zero, Act.put, List.setIfInBounds_toArray, List.set_cons_zero, List.set_cons_succ]
          refine wpAnyL_one (i := 20) rfl (by kernel_rfl) ?_
          intro Kq hKq
          go_simp
          refine (list_0 hA hc _ (HIH.out u1 HBu1.out)).mono ?_
          rintro e u2 ⟨rfl, hb⟩
          have HDu2 : Hid (Lib.IsBuilder 99 5 b b (Lib.byteCells wrT1) u2) := built_below (w := u1) HDu1.out hb
          have HBu2 : Hid (Below w2.heap.size w2 u2) := Below.trans (b := u1) HBu1.out (hb.mono (Below.size (w' := u1) HBu1.out))
          have HSu2 : Hid (b ≤ u2.heap.size) := Nat.le_trans (m := World.heap u1 |>.size) HSu1.out hb.size
          have hS := HKC.out _ HBu2.out
          refine hKq.out _ _ hS (fun _ => ?_)
          clear hKq Kq hb
          try simp only [Act.put, List.setIfInBounds_toArray, List.set_cons_zero, List.set_cons_succ]
          refine wpAnyL_take (i := 21) (v := ?vb_21) rfl (by kernel_rfl) (by kernel_rfl) (by kernel_rfl) (by kernel_rfl) (by rfl) (fun _ _ _ h => h) hS (Or.inl ⟨by rfl, ?hyb_21⟩) ?hrb_21
          case hyb_21 => (intro w hSw; (try dsimp only at hSw); go_simp; (try rfl))
          simp only [List.getElem_toArray, List.getElem_cons_succ, List.getElem_cons_zero, Act.put, List.setIfInBounds_toArray, List.set_cons_zero, List.set_cons_succ]
          refine wpAnyL_one (i := 22) rfl (by kernel_rfl) ?_
          intro Kq hKq
          go_simp
          refine (write_str b b wrT1 wrT2 _ _ HDu2.out (by kernel_rfl) (by kernel_rfl) HSu2.out).mono ?_
          rintro e u9 ⟨rfl, hd, hb⟩
          have HD9 := Lib.hid hd
          have HB9 : Hid (Below w2.heap.size w2 u9) := HBu2.out.trans (hb.mono HSZ3)
          have HS9 : Hid (b ≤ u9.heap.size) := Nat.le_trans HSu2.out hb.size
          have hS := HKC.out _ HB9.out
          refine hKq.out _ _ hS (fun _ => ?_)
          clear hKq Kq hb hd
          try simp only [Act.put, List.setIfInBounds_toArray, List.set_cons_zero, List.set_cons_succ]
          refine wpAnyL_done (by kernel_rfl) ?_
          try simp only [Act.put]
          go_wp2_with fail
          go_meet
          exact ⟨HD9, HB9, HS9⟩
        case rest =>
        obtain ⟨HD9, HB9, HS9⟩ := hcut
        obtain ⟨u9, rfl⟩ : ∃ u9, u9 = wc := ⟨_, rfl⟩
        obtain ⟨y0, y1, y2, y3, y4, y5⟩ := HKC.out _ HB9.out
        go_wp2_with (first
          | (go_at_call 48; refine (write_str b b wrT2 wrText _ _ HD9.out (by kernel_rfl) (by kernel_rfl) HS9.out).mono ?_; rintro e u10 ⟨rfl, hd, hb⟩; have HD10 := Lib.hid hd; have HB10 := Lib.hid (HB9.out.trans (hb.mono HSZ3)); have HS10 := Lib.hid (Nat.le_trans HS9.out hb.size); clear hd hb)
          | (go_at_call 51; refine (Tryz.Builder_String_any b b wrText _ HD10.out HS10.out).mono ?_; rintro e u11 ⟨rfl, hb⟩; have HB11 := Lib.hid (HB10.out.trans (hb.mono HSZ3)); clear hb))
        go_ret2
        exact ⟨rfl, HB2.out.trans (HB11.out.mono HB2.out.size)⟩
end Go.Proofs.YtpbjpochjagicaaGreatDoorRR
