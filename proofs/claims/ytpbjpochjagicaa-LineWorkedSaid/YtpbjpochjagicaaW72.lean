/- Walks: all lists of so many numbers from a first one on: Subsets. -/
import Derived.Test.YtpbjpochjagicaaW69
namespace Go.Proofs.Ytpbjpochjagicaa
open Go.RowKit

def seg (f n : Nat) : List Int := (List.range (n - f)).map fun k : Nat => ((f + k : Nat) : Int)
theorem seg_cons {f n : Nat} (h : f < n) : seg f n = (f : Int) :: seg (f + 1) n := by
  unfold seg
  obtain ⟨m, rfl⟩ : ∃ m, n = f + (m + 1) := ⟨n - f - 1, by omega⟩
  rw [show f + (m + 1) - f = m + 1 by omega, show f + (m + 1) - (f + 1) = m by omega, List.range_succ_eq_map, List.map_cons, List.map_map]
  refine congr (congrArg _ (by simp)) (List.map_congr_left fun k _ => ?_)
  simp only [Function.comp, Nat.succ_eq_add_one]
  omega
theorem seg_nil {f n : Nat} (h : n ≤ f) : seg f n = [] := by unfold seg; rw [Nat.sub_eq_zero_of_le h]; rfl
theorem seg_length (f n : Nat) : (seg f n).length = n - f := by simp [seg]
theorem seg_zero (n : Nat) : seg 0 n = Pl.nums n := by simp [seg, Pl.nums]
/-- 'append(s, l)' of one list onto an own row of lists, in a region that keeps its order. -/
theorem wpl_app_row {P : Program} {w : World} {ops : Array Oper} {rest : List Oper} {o : Oper} {a : Act} {Q : Exit → Act → World → Prop} (hgd : o.guard = none) (s x : Operand) (t : TypeId)
    (ho : o.op = .call { callee := .builtin .append, args := #[s, x], argTypes := #[t, t] })
    (base : Nat) (ht : P.underlying t = some (.slice 22)) (hi : (P.info? 22).map (fun i => (i.zero, i.size, i.bytes)) = some (some (.slice none 0 0), 1, 24))
    (A : Option Addr) (c : Nat) (ls : List (List Int)) (hs : a.eval s = .slice A ls.length c) (hown : OwnRows w base A c ls)
    (b c' : Nat) (l : List Int) (A' : Option Addr) (c2 : Nat) (hx : a.eval x = .slice (some ⟨b, 0, none⟩) 1 c') (hr : w.cell? ⟨b, 0, none⟩ = some (.slice A' l.length c2))
    (hI : IntsN w (rowBlk base A) A' l) (hl : l.length ≤ 1000) (hlen : ls.length ≤ 1000000) (hbase : base ≤ w.heap.size)
    (h : ∀ A2 c3 w', OwnRows w' base A2 c3 (ls ++ [l]) → w.grownBy w' (Value.slice A ls.length c).ownBlock → (A2.map (·.block) = A.map (·.block) ∨ A2.map (·.block) = some w.heap.size) →
      wpList P ops Q rest (a.put o.dst (.slice A2 (ls.length + 1) c3)) w') : wpList P ops Q (o :: rest) a w :=
  wpList_plain hgd fun K hK => by
    have := step_app_row (P := P) (ops := #[]) (E := True) (K := K) (Q := Q) hgd s x t ho base ht hi A c ls hs hown b c' l A' c2 hx hr hI hl hlen hbase (fun A2 c3 w' h1 h2 h3 => hK _ _ (h A2 c3 w' h1 h2 h3))
    rwa [if_pos (by simp [Region.wanted, hgd])] at this

set_option maxRecDepth 20000 in
set_option maxHeartbeats 4000000 in
theorem subsets_any : ∀ (m f n : Nat) (w : World), n ≤ 10 → f ≤ n → m ≤ 1000 →
    Calls Try.prog 22 #[.int .i64 f, .int .i64 n, .int .i64 m] w (RowsPost (Pl.lists (seg f n) m) w) := by
  intro m
  induction m with
  | zero =>
    intro f n w hn hf hm
    have HB : Hid (Below w.heap.size w (w.alloc (.cells #[.slice none 0 0] 22))) := (Below.refl _ _).alloc (Nat.le_refl _) _
    have HL := Lib.hid (OwnRows.lit w)
    rw [show Pl.lists (seg f n) 0 = [[]] by cases seg f n <;> rfl]
    go_enter Try.func22, Try.ntmps22
    go_wp2_with fail
    go_ret
    exact ⟨_, _, rfl, HL.out, HB.out⟩
  | succ m ih =>
    intro f n w hn hf hm
    have IH := Lib.hid ih
    clear ih
    generalize hR : Pl.lists (seg f n) (m + 1) = R
    have hRl : R.length ≤ 1024 := by
      rw [← hR]
      refine Nat.le_trans (lists_length _ _) ?_
      exact Nat.le_trans (Nat.pow_le_pow_right (by omega) (by rw [seg_length]; omega : _ ≤ 10)) (by decide)
    have HR0 : Hid (R = [] ++ Pl.lists (seg f n) (m + 1)) := by show _ = _; rw [← hR]; rfl
    clear hR
    have hq0 : (((m : Int) + 1) == 0) = false := by rw [beq_eq_false_iff_ne]; omega
    have hm1 : ((m + 1 : Nat) : Int) = (m : Int) + 1 := by omega
    rw [hm1]
    clear hm1
    go_enter Try.func22, Try.ntmps22
    go_wp2_with fail
    go_loopw [7, 8] (fun v iv wr => ∃ (k : Nat) (A2 : Option Addr) (c2 : Nat) (ls : List (List Int)), f ≤ k ∧ k ≤ n ∧ v = .slice A2 ls.length c2 ∧ iv = .int .i64 k ∧ Hid (R = ls ++ Pl.lists (seg k n) (m + 1)) ∧ Hid (OwnRows wr w.heap.size A2 c2 ls) ∧ Hid (Below w.heap.size w wr)) (fun _ i _ => n - (intOf i).toNat)
    case atStart => exact ⟨f, none, 0, [], by omega, hf, rfl, rfl, HR0, OwnRows.nil _ _, Below.refl _ _⟩
    case round =>
      obtain ⟨k, A2, c2, ls, hfk, hk, rfl, rfl, hN, hO, hB⟩ := hrel
      have hsr := hB.out.size
      by_cases hkl : k < n
      · have hki : (k : Int) < (n : Int) := by omega
        have HC := IH.out (k + 1) n wr hn (by omega) (by omega)
        rw [show ((k + 1 : Nat) : Int) = (k : Int) + 1 by omega] at HC
        have hNd := hN.out
        rw [seg_cons hkl] at hNd
        rw [Pl.lists] at hNd
        generalize hrs : Pl.lists (seg (k + 1) n) m = rs at HC hNd
        have hrl : rs.length ≤ 1024 := by
          rw [← hrs]
          refine Nat.le_trans (lists_length _ _) ?_
          exact Nat.le_trans (Nat.pow_le_pow_right (by omega) (by rw [seg_length]; omega : _ ≤ 10)) (by decide)
        have HCC := Lib.hid HC
        have HRS : Hid (∀ r ∈ rs, r.length = m) := fun r hr => (lists_sub (by rw [hrs]; exact hr)).2
        have HNd := Lib.hid hNd
        obtain ⟨x, hx⟩ : ∃ x : Int, x = (k : Int) := ⟨_, rfl⟩
        rw [← hx] at HNd
        have HX := Lib.hid hx
        have hsl : ls.length ≤ 1024 := by have := congrArg List.length HNd.out; simp only [List.length_append] at this; omega
        clear HC hNd hrs hN hx
        go_wp2_with fail
        refine HCC.out.mono ?_
        rintro e wb ⟨RA, rc, rfl, hro, hrb⟩
        have HRO := Lib.hid hro
        have HBb := Lib.hid (hB.out.trans (hrb.mono hsr))
        have HOb := Lib.hid (hO.out.below hrb (Nat.le_refl _))
        have hA2 : Hid (∀ q, A2 = some q → q.block < wr.heap.size ∨ wb.heap.size ≤ q.block) := fun q hq => .inl (hO.out.block q hq).2
        have HKb : Hid (KeepIn wr.heap.size wb wb) := KeepIn.refl _ _
        clear hro hrb hO HCC
        obtain ⟨wo, hwo⟩ : ∃ wo, wo = wr := ⟨_, rfl⟩
        subst hwo
        go_wp2_with fail
        rw [← HX.out]
        go_loopw [7, 10] (fun v jv wi => ∃ (j : Nat) (A3 : Option Addr) (c3 : Nat), j ≤ rs.length ∧ v = .slice A3 (ls ++ (rs.take j).map (x :: ·)).length c3 ∧ jv = .int .i64 j ∧ Hid (OwnRows wi w.heap.size A3 c3 (ls ++ (rs.take j).map (x :: ·))) ∧ Hid (Below w.heap.size w wi) ∧ Hid (KeepIn wo.heap.size wb wi) ∧ Hid (∀ q, A3 = some q → q.block < wo.heap.size ∨ wb.heap.size ≤ q.block)) (fun _ i _ => rs.length - (intOf i).toNat)
        case atStart => exact ⟨0, A2, c2, by omega, by simp, rfl, (by show OwnRows _ _ _ _ _; simpa using HOb.out), HBb, HKb, hA2⟩
        case round =>
          obtain ⟨j, A3, c3, hj, rfl, rfl, hO, hBi, hKi, hA3⟩ := hrel
          clear HOb HBb HKb hA2
          have hsi := hBi.out.size
          have htl : (ls ++ (rs.take j).map (x :: ·)).length ≤ 3000 := by simp; omega
          by_cases hjl : j < rs.length
          · obtain ⟨rb, A5, c5, hRA, hrb1, hrb2, hr1, hrp⟩ := HRO.out.pick (List.getElem?_eq_getElem hjl)
            subst hRA
            have hrm := HRS.out rs[j] (List.getElem_mem hjl)
            obtain ⟨hrc, hri⟩ := hrp _ hKi.out
            have hji : (j : Int) < (rs.length : Int) := by omega
            have hrb3 : rb < wr.heap.size := by have := hKi.out.size; omega
            have hTK : Hid (ls ++ (rs.take (j + 1)).map (x :: ·) = (ls ++ (rs.take j).map (x :: ·)) ++ [x :: rs[j]]) := by
              show _ = _
              rw [List.take_add_one, List.getElem?_eq_getElem hjl, List.map_append, ← List.append_assoc]; rfl
            have hri2 := hri.more hKi.out.size
            generalize rs[j] = r at hrc hri2 hr1 hTK hrm hrp
            generalize ls ++ (rs.take j).map (x :: ·) = zs at hO htl hTK ⊢
            have hbA : Below wr.heap.size wr (wr.alloc (.cells #[.int .i64 x] 3)) := (Below.refl _ _).alloc (Nat.le_refl _) _
            have hSk : Hid (∀ q, wr.heap.size ≤ q → ¬ rowBlk w.heap.size A3 q) := by
              rintro q hq (e | e)
              · omega
              · cases hA : A3 with
                | none => rw [hA] at e; cases e
                | some a =>
                  rw [hA] at e
                  simp at e
                  have := (hO.out.block a hA).2
                  omega
            have hrow : Hid (∀ q, (Value.slice A3 zs.length c3).ownBlock = some q → w.heap.size ≤ q ∧ (q < wo.heap.size ∨ wb.heap.size ≤ q)) := by
              intro q hq
              rw [ownBlock_slice] at hq
              cases hA : A3 with
              | none => rw [hA] at hq; cases hq
              | some a =>
                rw [hA] at hq
                simp at hq
                subst hq
                exact ⟨(hO.out.block a hA).1, hA3.out a hA⟩
            have hend : Hid (∀ (w2 w3 : World) (o : Obj), Below wr.heap.size wr w2 → (w2.alloc o).grownBy w3 (Value.slice A3 zs.length c3).ownBlock → Below w.heap.size w w3 ∧ KeepIn wo.heap.size wb w3) := by
              intro w2 w3 o h2 h3
              have s2 := h2.size
              refine ⟨((hBi.out.trans (h2.mono hsi)).alloc (by omega) o).grown h3 (by simp; omega) (fun q hq => (hrow.out q hq).1), ((hKi.out.below h2 (Nat.le_refl _)).below ((Below.refl _ _).alloc (Nat.le_refl _) o) (Nat.le_refl _)).grown h3 (fun q hq => (hrow.out q hq).2)⟩
            have HRM := Lib.hid hrm
            have HBA := Lib.hid hbA
            have HRI := Lib.hid hri2
            have hoA : Hid (OwnInts (wr.alloc (.cells #[.int .i64 x] 3)) wr.heap.size (some ⟨wr.heap.size, 0, none⟩) 1 [x]) := own_one wr x
            have HZL := Lib.hid htl
            have HR1 := Lib.hid hr1
            have HS3 := Lib.hid hsi
            clear hbA hri hri2 hrp htl hr1 hrm
            go_wp2_with (at_builtin; first
              | (refine wpl_app_ints rfl (.tmp 34) (.tmp 38) 22 rfl wr.heap.size Try.underlying22 int_info (some ⟨wr.heap.size, 0, none⟩) 1 [x] rfl hoA.out wr.heap.size A5 c5 r rfl (HRI.out.below HBA.out) (by have := HR1.out; simp; omega) HBA.out.size ?_; intro A6 c6 w2 ho6 hg6 hat6; have hb6 : Below wr.heap.size wr w2 := HBA.out.trans ((Below.refl _ _).grown hg6 HBA.out.size (fun q hq => by simp [Value.ownBlock] at hq; omega)); have HO6 := Lib.hid ho6; have HB6 := Lib.hid hb6; clear ho6 hg6 hb6 hat6)
              | (refine wpl_app_row rfl (.tmp 32) (.tmp 40) 37 rfl w.heap.size Try.underlying37 row_info A3 c3 zs rfl ((hO.out.below HB6.out (Nat.le_refl _)).alloc _) w2.heap.size 1 (x :: r) A6 c6 rfl (blk_cell (heap_alloc_new w2 _) 0) (IntsN.of_own (own_alloc HO6.out _) hSk.out) (by have := HRM.out; simp; omega) (by have := HZL.out; omega) (by have := HB6.out.size; simp; omega) ?_; intro A7 c7 w3 ho7 hg7 ha7; have hb7 := hend.out w2 w3 _ HB6.out hg7; have HB7 := Lib.hid hb7.1; have HK7 := Lib.hid hb7.2; have HA7 : Hid (∀ q, A7 = some q → q.block < wo.heap.size ∨ wb.heap.size ≤ q.block) := (by intro q hq; subst hq; have h2 := HB6.out.size; have h3 := hKi.out.size; exact ha7.elim (fun e => (hrow.out q.block (by rw [ownBlock_slice]; exact e.symm)).2) (fun e => .inr (by simp at e; omega))); have HO7 := Lib.hid ho7; clear ho7 hg7 ha7 hb7))
            go_roundw
            case rel => exact ⟨j + 1, A7, c7, by omega, by rw [hTK.out]; simp, by go_num, (by show OwnRows _ _ _ _ _; rw [hTK.out]; exact HO7.out), HB7, HK7, HA7⟩
            case measure => simp [intOf]; omega
          · obtain rfl : j = rs.length := by omega
            have hni : ¬ (rs.length : Int) < (rs.length : Int) := by omega
            have hNN : Hid (R = (ls ++ (rs.take rs.length).map (x :: ·)) ++ Pl.lists (seg (k + 1) n) (m + 1)) := by
              show _ = _
              rw [HNd.out, List.take_length, List.append_assoc]
            generalize ls ++ (rs.take rs.length).map (x :: ·) = zs at hO htl hNN ⊢
            rw [HX.out]
            go_wp2_with fail
            go_roundw
            case rel => exact ⟨k + 1, A3, c3, zs, by omega, by omega, rfl, by go_num, hNN, hO, hBi⟩
            case measure => simp [intOf]; omega
      · have hRE : R = ls := by rw [hN.out, seg_nil (by omega)]; simp [Pl.lists]
        subst hRE
        have hni : ¬ (k : Int) < (n : Int) := by omega
        clear hN
        go_wp2_with fail
        go_ret
        exact ⟨A2, c2, rfl, hO.out, hB.out⟩
end Go.Proofs.Ytpbjpochjagicaa
