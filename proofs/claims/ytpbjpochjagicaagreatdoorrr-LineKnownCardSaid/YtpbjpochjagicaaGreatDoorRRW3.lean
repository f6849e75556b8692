/- Walks: the bag that deals numbers; small functions on lists. -/
import Derived.Test.YtpbjpochjagicaaGreatDoorRRW2
import Derived.Test.YtpbjpochjagicaaGreatDoorRRWd
import Derived.Lib.Hide
namespace Go.Proofs.YtpbjpochjagicaaGreatDoorRR
open Go.RowKit

/-- The bag has dealt: its cell alone has turned. -/
def Bagged (g : Nat) (w w' : World) : Prop := ∃ (s : Int) (n : Nat), w' = (w.setCell ⟨g, 0, none⟩ (.int .u64 s)).drewN n
section
variable {g : Nat} {w w' : World}
theorem Bagged.size (h : Bagged g w w') : w'.heap.size = w.heap.size := by obtain ⟨s, n, rfl⟩ := h; simp [World.setCell, World.drewN]
theorem Bagged.block (h : Bagged g w w') {k : Nat} (hk : k ≠ g) : w'.heap[k]? = w.heap[k]? := by
  obtain ⟨s, n, rfl⟩ := h
  exact Below.heap_setCell w ⟨g, 0, none⟩ (.int .u64 s) k hk
theorem Bagged.cell (h : Bagged g w w') {p : Addr} (hp : p.block ≠ g) : w'.cell? p = w.cell? p := World.cell?_of_block (h.block hp)
theorem Bagged.frozen (h : Bagged g w w') {p : Addr} (hp : p.block ≠ g) : w'.frozen? p = w.frozen? p := World.frozen?_of_block (h.block hp)
theorem Bagged.below {B : Nat} (h : Bagged g w w') (hB : B ≤ g) : Below B w w' := by
  obtain ⟨s, n, rfl⟩ := h
  exact (Below.refl B w).setCell (p := ⟨g, 0, none⟩) hB _ |>.trans ⟨rfl, rfl, rfl, Nat.le_refl _, fun _ _ => rfl⟩
theorem Bagged.grown (h : Bagged g w w') : w.grownBy w' (some g) := by
  have hs := h.size
  have hb := fun k (hk : k ≠ g) => h.block hk
  obtain ⟨s, n, rfl⟩ := h
  exact ⟨rfl, rfl, rfl, by omega, fun k _ hk => hb k (fun e => hk (by rw [e]))⟩
theorem Bagged.trans {w2 : World} (h : Bagged g w w') (h2 : Bagged g w' w2) : Bagged g w w2 := by
  obtain ⟨s, n, rfl⟩ := h
  obtain ⟨s2, n2, rfl⟩ := h2
  refine ⟨s2, n + n2, ?_⟩
  have e : ((w.setCell ⟨g, 0, none⟩ (.int .u64 s)).drewN n).setCell ⟨g, 0, none⟩ (.int .u64 s2) = (w.setCell ⟨g, 0, none⟩ (.int .u64 s2)).drewN n := by
    simp only [World.setCell, World.drewN]
    congr 1
    apply Array.ext_getElem?
    intro i
    simp only [Array.getElem?_modify]
    by_cases hi : g = i
    · subst hi
      simp only [if_true]
      cases hw : w.heap[g]? with
      | none => simp
      | some o => cases o <;> simp
    · simp [hi]
  rw [e, World.drewN_drewN]
end

/-- What Up deals. -/
def UpPost (g : Nat) (m : Int) (w : World) (e : Ending) (w' : World) : Prop := ∃ x : Int, e = .returned (.int .i64 x) ∧ 0 ≤ x ∧ (x ≤ m ∨ x ≤ 0) ∧ Bagged g w w'

/-- What From deals. -/
def FromPost (g : Nat) (a m : Int) (w : World) (e : Ending) (w' : World) : Prop := ∃ x : Int, e = .returned (.int .i64 x) ∧ a ≤ x ∧ (x ≤ m ∨ x ≤ a) ∧ Bagged g w w'
def BoolPost (g : Nat) (w : World) (e : Ending) (w' : World) : Prop := ∃ b : Bool, e = .returned (.bool b) ∧ Bagged g w w'
/-- What One deals: one of the list. -/
def OnePost (g : Nat) (xs : List Int) (w : World) (e : Ending) (w' : World) : Prop := ∃ x : Int, e = .returned (.int .i64 x) ∧ x ∈ xs ∧ Bagged g w w'
def idxFrom (n : Int) : List Int → Int → Int
  | [], _ => -1
  | x :: l, k => if x = n then k else idxFrom n l (k + 1)
/-- The first place of a number in a list, or -1. -/
def idx (xs : List Int) (n : Int) : Int := idxFrom n xs 0
theorem idxFrom_lt (n : Int) : ∀ (xs : List Int) (k : Int), 0 ≤ k → (idxFrom n xs k < 0 ↔ n ∉ xs)
  | [], k, _ => by simp [idxFrom]
  | x :: l, k, hk => by
    simp only [idxFrom]
    split
    · rename_i h; subst h; simp; omega
    · rename_i h
      rw [idxFrom_lt n l (k + 1) (by omega)]
      simp [Ne.symm h]
theorem idx_lt (xs : List Int) (n : Int) : idx xs n < 0 ↔ n ∉ xs := idxFrom_lt n xs 0 (by omega)
theorem idx_ge (xs : List Int) (n : Int) : 0 ≤ idx xs n ↔ n ∈ xs := by
  have := idx_lt xs n
  by_cases h : n ∈ xs
  · simp [h] at this ⊢; omega
  · simp [h] at this ⊢; omega
theorem idxFrom_drop (xs : List Int) (n : Int) (k : Nat) (hk : k < xs.length) : idxFrom n (xs.drop k) k = if xs[k] = n then (k : Int) else idxFrom n (xs.drop (k + 1)) ((k + 1 : Nat) : Int) := by
  rw [List.drop_eq_getElem_cons hk, idxFrom]; rfl

theorem Ints.form {w : World} {B : Nat} {A : Option Addr} {xs : List Int} (h : Ints w B A xs) :
    xs = [] ∨ ∃ b off, A = some ⟨b, off, none⟩ ∧ b < B ∧ ∀ k (hk : k < xs.length), w.cell? ⟨b, off + k, none⟩ = some (.int .i64 xs[k]) := by
  rcases h.cases with h | ⟨b, off, hA, hb, hc⟩
  · exact .inl h
  · exact .inr ⟨b, off, hA, hb, fun k hk => hc k _ (List.getElem?_eq_getElem hk)⟩

set_option maxHeartbeats 400000 in
theorem index_any (A : Option Addr) (c : Nat) (xs : List Int) (n : Int) (B : Nat) (w : World) (hx : Ints w B A xs) (hl : xs.length ≤ 9223372036854775807) :
    Calls Tryz.prog 54 #[.slice A xs.length c, .int .i64 n] w fun e w' => e = .returned (.int .i64 (idx xs n)) ∧ w = w' := by
  rcases hx.form with rfl | ⟨b, off, rfl, _, hc⟩
  · clear hx
    go_enter Tryz.func54, Tryz.ntmps54
    go_wp2
    go_loop [8] (fun i => i = .int .i64 0) (fun _ => 0)
    case atStart => rfl
    case round =>
      obtain rfl := hrel
      go_wp2
      go_ret
      exact ⟨rfl, rfl⟩
  · clear hx
    go_enter Tryz.func54, Tryz.ntmps54
    go_wp2
    go_loop [8] (fun i => ∃ k : Nat, k ≤ xs.length ∧ i = .int .i64 k ∧ Hid (idx xs n = idxFrom n (xs.drop k) k)) (fun i => xs.length - (intOf i).toNat)
    case atStart => exact ⟨0, Nat.zero_le _, rfl, rfl⟩
    case round =>
      obtain ⟨k, hk, rfl, hR⟩ := hrel
      by_cases hlt : k < xs.length
      · have hck := hc k hlt
        by_cases he : xs[k] = n
        · have hN : Hid (idx xs n = k) := by show _ = _; rw [hR.out, idxFrom_drop xs n k hlt, if_pos he]
          have hb : (n == xs[k]) = true := by rw [beq_iff_eq]; first | exact he | exact he.symm
          clear hR he
          go_wp2
          go_ret
          exact ⟨by rw [hN.out]; rfl, rfl⟩
        · have hN : Hid (idx xs n = idxFrom n (xs.drop (k + 1)) ((k + 1 : Nat) : Int)) := by show _ = _; rw [hR.out, idxFrom_drop xs n k hlt, if_neg he]
          have hb : (n == xs[k]) = false := by rw [beq_eq_false_iff_ne]; first | exact he | exact Ne.symm he
          clear hR he
          go_wp2
          go_round
          case rel => exact ⟨k + 1, by omega, by go_num, hN⟩
          case measure => simp [intOf]; omega
      · have hN : Hid (idx xs n = -1) := by show _ = _; rw [hR.out, List.drop_eq_nil_of_le (by omega)]; rfl
        clear hR
        go_wp2
        go_ret
        exact ⟨by rw [hN.out]; rfl, rfl⟩

theorem contains_any (A : Option Addr) (c : Nat) (xs : List Int) (n : Int) (B : Nat) (w : World) (hx : Ints w B A xs) (hl : xs.length ≤ 9223372036854775807) :
    Calls Tryz.prog 28 #[.slice A xs.length c, .int .i64 n] w fun e w' => e = .returned (.bool (decide (n ∈ xs))) ∧ w = w' := by
  have hI := index_any A c xs n B w hx hl
  have H := Lib.hid hI; clear hI
  have hE : decide (n ∈ xs) = decide (0 ≤ idx xs n) := decide_eq_decide.2 (idx_ge xs n).symm
  rw [hE]; clear hE
  go_enter Tryz.func28, Tryz.ntmps28
  go_wp2_with (go_at_call 54; refine H.out.mono ?_; rintro e w' ⟨rfl, rfl⟩)
  go_ret
  exact ⟨rfl, rfl⟩
end Go.Proofs.YtpbjpochjagicaaGreatDoorRR
