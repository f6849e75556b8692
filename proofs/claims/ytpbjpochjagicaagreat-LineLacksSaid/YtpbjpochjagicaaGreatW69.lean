/- Walks: all lists of so many things of a list: Lists of the reference. -/
import Derived.Test.YtpbjpochjagicaaGreatW67
import Derived.Test.YtpbjpochjagicaaGreatGv
import Derived.Deep.RegionHeld3
namespace Go.Proofs.YtpbjpochjagicaaGreat
open Go.RowKit

def RowsPost (ls : List (List Int)) (w : World) (e : Ending) (w' : World) : Prop := ∃ A cp, e = .returned (.slice A ls.length cp) ∧ OwnRows w' w.heap.size A cp ls ∧ Below w.heap.size w w'
theorem cut_ints {w : World} {B : Nat} {b off k : Nat} {l : List Int} (h : Ints w B (some ⟨b, off, none⟩) l) : Ints w B (some ⟨b, off + k, none⟩) (l.drop k) := fun j x hx => by
  rw [List.getElem?_drop] at hx
  obtain ⟨b', off', e, hb, hc⟩ := h (k + j) x hx
  injection e with e
  injection e with e1 e2 _
  subst e1 e2
  exact ⟨b, off + k, rfl, hb, by rw [Nat.add_assoc]; exact hc⟩

set_option maxRecDepth 20000 in
set_option maxHeartbeats 4000000 in
theorem lists_any : ∀ (m : Nat) (l : List Int) (A : Option Addr) (cp : Nat) (w : World), Ints w w.heap.size A l → l.length ≤ 10 → l.length ≤ cp → cp ≤ 9223372036854775807 → m ≤ 1000 →
    Calls Tryz.prog 47 #[.slice A l.length cp, .int .i64 m] w (RowsPost (Pl.lists l m) w) := by
  intro m
  induction m with
  | zero =>
    intro l A cp w hx hl hcp hcm hm
    have HB : Hid (Below w.heap.size w (w.alloc (.cells #[.slice none 0 0] 23))) := (Below.refl _ _).alloc (Nat.le_refl _) _
    have HL := Lib.hid (OwnRows.lit w)
    rw [show Pl.lists l 0 = [[]] by cases l <;> rfl]
    clear hx
    go_enter Tryz.func47, Tryz.ntmps47
    go_wp2_with fail
    go_ret
    exact ⟨_, _, rfl, HL.out, HB.out⟩
  | succ m ih =>
    intro l A cp w hx hl hcp hcm hm
    have HX := Lib.hid hx
    have IH := Lib.hid ih
    clear hx ih
    generalize hR : Pl.lists l (m + 1) = R
    have hRl : R.length ≤ 1024 := by
      rw [← hR]
      refine Nat.le_trans (lists_length _ _) ?_
      exact Nat.le_trans (Nat.pow_le_pow_right (by omega) hl) (by decide)
    have HR0 : Hid (R = [] ++ Pl.lists (l.drop 0) (m + 1)) := by show _ = _; rw [← hR]; rfl
    clear hR
    have hq0 : (((m : Int) + 1) == 0) = false := by rw [beq_eq_false_iff_ne]; omega
    have hm1 : ((m + 1 : Nat) : Int) = (m : Int) + 1 := by omega
    rw [hm1]
    have hwm : Hid (IntKind.i64.wrap (m : Int) = (m : Int)) := IntWalk.i64_in _ (by omega)
    clear hm1
    go_enter Tryz.func47, Tryz.ntmps47
    go_wp2_with fail
    go_loopw [5, 6] (fun v iv wr => ∃ (k : Nat) (A2 : Option Addr) (c2 : Nat) (ls : List (List Int)), k ≤ l.length ∧ v = .slice A2 ls.length c2 ∧ iv = .int .i64 k ∧ Hid (R = ls ++ Pl.lists (l.drop k) (m + 1)) ∧ Hid (OwnRows wr w.heap.size A2 c2 ls) ∧ Hid (Below w.heap.size w wr)) (fun _ i _ => l.length - (intOf i).toNat)
    case atStart => exact ⟨0, none, 0, [], by omega, rfl, rfl, HR0, OwnRows.nil _ _, Below.refl _ _⟩
    case round =>
      obtain ⟨k, A2, c2, ls, hk, rfl, rfl, hN, hO, hB⟩ := hrel
      have hsr := hB.out.size
      by_cases hkl : k < l.length
      · obtain ⟨b, off, rfl, hb, hc⟩ := HX.out k l[k] (List.getElem?_eq_getElem hkl)
        obtain ⟨S, hS, hcut⟩ : ∃ S : Option Addr, (if cp = k + 1 then some (⟨b, off, none⟩ : Addr) else some ⟨b, off + (k + 1), none⟩) = S ∧ Ints wr wr.heap.size S (l.drop (k + 1)) := by
          refine ⟨_, rfl, ?_⟩
          by_cases e : cp = k + 1
          · rw [if_pos e, List.drop_eq_nil_of_le (by omega)]; exact Ints.nil _ _ _
          · rw [if_neg e]; exact cut_ints (k := k + 1) ((HX.out.below hB.out).more hsr)
        have hdl : (l.drop (k + 1)).length = l.length - (k + 1) := by simp
        have hki : (k : Int) < (l.length : Int) := by omega
        have hk1 : (0 : Int) ≤ (k : Int) + 1 := by omega
        have hk2 : (k : Int) + 1 ≤ (l.length : Int) := by omega
        have hk3 : (k : Int) + 1 ≤ (cp : Int) := by omega
        have htn : ((k : Int) + 1).toNat = k + 1 := by omega
        have HW : Hid (IntKind.i64.wrap ((k : Int) + 1) = (k : Int) + 1) := IntWalk.i64_in _ (by omega)
        have HC := IH.out (l.drop (k + 1)) S (cp - (k + 1)) wr hcut (by omega) (by omega) (by omega) (by omega)
        have hNd := hN.out
        rw [lists_drop hkl] at hNd
        rw [hdl] at HC
        generalize hrs : Pl.lists (l.drop (k + 1)) m = rs at HC hNd
        have hrl : rs.length ≤ 1024 := by
          rw [← hrs]
          refine Nat.le_trans (lists_length _ _) ?_
          exact Nat.le_trans (Nat.pow_le_pow_right (by omega) (by omega : _ ≤ 10)) (by decide)
        have HCC := Lib.hid HC
        have HRS : Hid (∀ r ∈ rs, r.length = m) := fun r hr => (lists_sub (by rw [hrs]; exact hr)).2
        have HNd := Lib.hid hNd
        have hlx := (hB.out.cell (p := ⟨b, off + k, none⟩) hb).trans hc
        generalize l[k] = x at hc HNd hlx
        have hsl : ls.length ≤ 1024 := by have := congrArg List.length HNd.out; simp only [List.length_append] at this; omega
        clear HC hNd hrs hN hcut hdl hlx
        go_wp2_with fail
        refine HCC.out.mono ?_
        rintro e wb ⟨RA, rc, rfl, hro, hrb⟩
        have HRO := Lib.hid hro
        have HBb := Lib.hid (hB.out.trans (hrb.mono hsr))
        have HOb := Lib.hid (hO.out.below hrb (Nat.le_refl _))
        have hA2 : Hid (∀ q, A2 = some q → q.block < wr.heap.size ∨ wb.heap.size ≤ q.block) := fun q hq => .inl (hO.out.block q hq).2
        have HKb : Hid (KeepIn wr.heap.size wb wb) := KeepIn.refl _ _
        clear hro hrb hO HCC
        obtain ⟨wo, hwo⟩ : ∃ wo, wo = wr := ⟨_, rfl⟩
        subst hwo
        go_wp2_with fail
        go_loopw [5, 8] (fun v jv wi => ∃ (j : Nat) (A3 : Option Addr) (c3 : Nat), j ≤ rs.length ∧ v = .slice A3 (ls ++ (rs.take j).map (x :: ·)).length c3 ∧ jv = .int .i64 j ∧ Hid (OwnRows wi w.heap.size A3 c3 (ls ++ (rs.take j).map (x :: ·))) ∧ Hid (Below w.heap.size w wi) ∧ Hid (KeepIn wo.heap.size wb wi) ∧ Hid (∀ q, A3 = some q → q.block < wo.heap.size ∨ wb.heap.size ≤ q.block)) (fun _ i _ => rs.length - (intOf i).toNat)
        case atStart => exact ⟨0, A2, c2, by omega, by simp, rfl, (by show OwnRows _ _ _ _ _; simpa using HOb.out), HBb, HKb, hA2⟩
        case round =>
          obtain ⟨j, A3, c3, hj, rfl, rfl, hO, hBi, hKi, hA3⟩ := hrel
          clear HOb HBb HKb hA2 hS
          have hsi := hBi.out.size
          have hlx := (hBi.out.cell (p := ⟨b, off + k, none⟩) hb).trans hc
          have hbi : b < wr.heap.size := by omega
          have htl : (ls ++ (rs.take j).map (x :: ·)).length ≤ 3000 := by simp; omega
          by_cases hjl : j < rs.length
          · obtain ⟨rb, A5, c5, hRA, hrb1, hrb2, hr1, hrp⟩ := HRO.out.pick (List.getElem?_eq_getElem hjl)
            subst hRA
            have hrm := HRS.out rs[j] (List.getElem_mem hjl)
            obtain ⟨hrc, hri⟩ := hrp _ hKi.out
            have hji : (j : Int) < (rs.length : Int) := by omega
            have hrb3 : rb < wr.heap.size := by have := hKi.out.size; omega
            have hTK : Hid (ls ++ (rs.take (j + 1)).map (x :: ·) = (ls ++ (rs.take j).map (x :: ·)) ++ [x :: rs[j]]) := by
              show _ = _
              rw [List.take_add_one, List.getElem?_eq_getElem hjl, List.map_append, ← List.append_assoc]; rfl
            have hri2 := hri.more hKi.out.size
            generalize rs[j] = r at hrc hri2 hr1 hTK hrm hrp
            generalize ls ++ (rs.take j).map (x :: ·) = zs at hO htl hTK ⊢
            have hbA : Below wr.heap.size wr (wr.alloc (.cells #[.int .i64 x] 3)).drew := ((Below.refl _ _).alloc (Nat.le_refl _) _).drew
            have hk3 : ∀ w', Below wr.heap.size wr w' → w'.cell? ⟨b, off + k, none⟩ = some (.int .i64 x) ∧ w'.cell? ⟨rb, j, none⟩ = some (.slice A5 r.length c5) := fun w' hb' =>
              ⟨(hb'.cell (p := ⟨b, off + k, none⟩) hbi).trans hlx, (hb'.cell (p := ⟨rb, j, none⟩) hrb3).trans hrc⟩
            have hSk : Hid (∀ q, wr.heap.size ≤ q → ¬ rowBlk w.heap.size A3 q) := by
              rintro q hq (e | e)
              · omega
              · cases hA : A3 with
                | none => rw [hA] at e; cases e
                | some a =>
                  rw [hA] at e
                  simp at e
                  have := (hO.out.block a hA).2
                  omega
            have hrow : Hid (∀ q, (Value.slice A3 zs.length c3).ownBlock = some q → w.heap.size ≤ q ∧ (q < wo.heap.size ∨ wb.heap.size ≤ q)) := by
              intro q hq
              rw [ownBlock_slice] at hq
              cases hA : A3 with
              | none => rw [hA] at hq; cases hq
              | some a =>
                rw [hA] at hq
                simp at hq
                subst hq
                exact ⟨(hO.out.block a hA).1, hA3.out a hA⟩
            have hend : Hid (∀ (w2 w3 : World) (o : Obj), Below wr.heap.size wr w2 → (w2.alloc o).grownBy w3 (Value.slice A3 zs.length c3).ownBlock → Below w.heap.size w w3 ∧ KeepIn wo.heap.size wb w3) := by
              intro w2 w3 o h2 h3
              have s2 := h2.size
              refine ⟨((hBi.out.trans (h2.mono hsi)).alloc (by omega) o).grown h3 (by simp; omega) (fun q hq => (hrow.out q hq).1), ((hKi.out.below h2 (Nat.le_refl _)).below ((Below.refl _ _).alloc (Nat.le_refl _) o) (Nat.le_refl _)).grown h3 (fun q hq => (hrow.out q hq).2)⟩
            have hsee : Hid (∀ w3, Below w.heap.size w w3 → KeepIn wo.heap.size wb w3 → w3.cell? ⟨b, off + k, none⟩ = some (.int .i64 x) ∧ w3.cell? ⟨rb, j, none⟩ = some (.slice A5 r.length c5)) :=
              fun w3 h1 h2 => ⟨(h1.cell (p := ⟨b, off + k, none⟩) hb).trans hc, (hrp _ h2).1⟩
            have HRM := Lib.hid hrm
            clear hrm
            have HK3 := Lib.hid hk3
            have HBA := Lib.hid hbA
            have HRI := Lib.hid hri2
            clear hk3 hbA hri hri2 hrp
            have hcA : Hid ((wr.alloc (.cells #[.int .i64 x] 3)).drew.cell? ⟨wr.heap.size, 0, none⟩ = some (.int .i64 x)) := blk_cell (heap_alloc_new wr (.cells #[.int .i64 x] 3)) 0
            have hoA : Hid (OwnInts (wr.alloc (.cells #[.int .i64 x] 3)).drew wr.heap.size (some ⟨wr.heap.size, 0, none⟩) 1 [x]) := own_one wr x
            go_wp2_with fail
            have tok1 : True := trivial
            have HZL := Lib.hid htl
            have HR1 := Lib.hid hr1
            have HS3 := Lib.hid hsi
            clear htl hr1
            go_region_held3 (fun w' => w'.cell? ⟨b, off + k, none⟩ = some (.int .i64 x) ∧ w'.cell? ⟨rb, j, none⟩ = some (.slice A5 r.length c5))
              (first | go_keep | exact hS | exact HK3.out _ HBA.out)
              (first
                | (have _t := tok1; refine step_app_ints (by rfl) (.tmp 36) (.tmp 40) 23 (by rfl) wr.heap.size Tryz.underlying23 int_info (some ⟨wr.heap.size, 0, none⟩) 1 [x] (by rfl) hoA.out wr.heap.size A5 c5 r (by rfl) (HRI.out.below HBA.out) (by have := HR1.out; simp; omega) HBA.out.size ?_; intro A6 c6 w2 ho6 hg6; have hb6 : Below wr.heap.size wr w2 := HBA.out.trans ((Below.refl _ _).grown hg6 HBA.out.size (fun q hq => by simp [Value.ownBlock] at hq; omega)); have HO6 := Lib.hid ho6; have HB6 := Lib.hid hb6; have hS := HK3.out _ hb6; clear ho6 hg6 hb6 _t tok1)
                | (refine step_app_row (by rfl) (.tmp 31) (.tmp 42) 84 (by rfl) w.heap.size Tryz.underlying84 row_info A3 c3 zs (by rfl) ((hO.out.below HB6.out (Nat.le_refl _)).alloc _) w2.heap.size 1 (x :: r) A6 c6 (by rfl) (blk_cell (heap_alloc_new w2 _) 0) (IntsN.of_own (own_alloc HO6.out _) hSk.out) (by have := HRM.out; simp; omega) (by have := HZL.out; omega) (by have := HB6.out.size; simp; omega) ?_; intro A7 c7 w3 ho7 hg7 ha7; have hb7 := hend.out w2 w3 _ HB6.out hg7; have HB7 := Lib.hid hb7.1; have HK7 := Lib.hid hb7.2; have HA7 : Hid (∀ q, A7 = some q → q.block < wo.heap.size ∨ wb.heap.size ≤ q.block) := (by intro q hq; subst hq; have h2 := HB6.out.size; have h3 := hKi.out.size; exact ha7.elim (fun e => (hrow.out q.block (by rw [ownBlock_slice]; exact e.symm)).2) (fun e => .inr (by simp at e; omega))); have HO7 := Lib.hid ho7; have hS := hsee.out _ hb7.1 hb7.2; clear ho7 hg7 ha7 hb7))
            go_wp2_with fail
            go_roundw
            case rel => exact ⟨j + 1, A7, c7, by omega, by rw [hTK.out]; simp, by go_num, (by show OwnRows _ _ _ _ _; rw [hTK.out]; exact HO7.out), HB7, HK7, HA7⟩
            case measure => simp [intOf]; omega
          · obtain rfl : j = rs.length := by omega
            have hni : ¬ (rs.length : Int) < (rs.length : Int) := by omega
            have hNN : Hid (R = (ls ++ (rs.take rs.length).map (x :: ·)) ++ Pl.lists (l.drop (k + 1)) (m + 1)) := by
              show _ = _
              rw [HNd.out, List.take_length, List.append_assoc]
            generalize ls ++ (rs.take rs.length).map (x :: ·) = zs at hO htl hNN ⊢
            clear hlx
            go_wp2_with fail
            go_roundw
            case rel => exact ⟨k + 1, A3, c3, zs, by omega, rfl, by go_num, hNN, hO, hBi⟩
            case measure => simp [intOf]; omega
      · have hRE : R = ls := by rw [hN.out, List.drop_eq_nil_of_le (by omega)]; simp [Pl.lists]
        subst hRE
        have hni : ¬ (k : Int) < (l.length : Int) := by omega
        clear hN
        go_wp2_with fail
        go_ret
        exact ⟨A2, c2, rfl, hO.out, hB.out⟩
end Go.Proofs.YtpbjpochjagicaaGreat
