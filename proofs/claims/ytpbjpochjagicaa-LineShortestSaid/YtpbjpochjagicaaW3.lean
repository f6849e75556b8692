/- Walks: the bag that deals numbers; small functions on lists. -/
import Derived.Test.YtpbjpochjagicaaW2
import Derived.Test.YtpbjpochjagicaaWd
import Derived.Lib.Hide
namespace Go.Proofs.Ytpbjpochjagicaa
open Go.RowKit

/-- A bag lies in block g. -/
def BagAt (w : World) (g : Nat) : Prop := ∃ s : Int, w.heap[g]? = some (.cells #[.int .u64 s] 88 (0, 0))
/-- The bag has dealt: its cell alone has turned. -/
def Bagged (g : Nat) (w w' : World) : Prop := ∃ (s : Int) (n : Nat), w' = (w.setCell ⟨g, 0, none⟩ (.int .u64 s)).drewN n
section
variable {g : Nat} {w w' : World}
theorem BagAt.lt (h : BagAt w g) : g < w.heap.size := by
  obtain ⟨s, h⟩ := h
  rcases Nat.lt_or_ge g w.heap.size with hlt | hge
  · exact hlt
  · rw [Array.getElem?_eq_none hge] at h; cases h
theorem BagAt.cell (h : BagAt w g) : ∃ s : Int, w.cell? ⟨g, 0, none⟩ = some (.int .u64 s) ∧ w.frozen? ⟨g, 0, none⟩ = false := by
  obtain ⟨s, h⟩ := h
  exact ⟨s, cell_of_row w g 0 _ 88 (0, 0) h, by simp [World.frozen?, h]⟩
theorem BagAt.of_block (h : BagAt w g) (hb : w'.heap[g]? = w.heap[g]?) : BagAt w' g := by
  obtain ⟨s, h⟩ := h
  exact ⟨s, hb.trans h⟩
theorem BagAt.alloc (h : BagAt w g) (o : Obj) : BagAt (w.alloc o) g := h.of_block (Below.heap_alloc w o g h.lt)
theorem BagAt.grown {row : Option Nat} (h : BagAt w g) (hg : w.grownBy w' row) (hne : some g ≠ row) : BagAt w' g := h.of_block (hg.block g h.lt hne)
theorem BagAt.below {B : Nat} (h : BagAt w g) (hb : Below B w w') (hg : g < B) : BagAt w' g := h.of_block (hb.block g hg)
theorem BagAt.setCell (h : BagAt w g) {p : Addr} (hp : g ≠ p.block) (u : Value) : BagAt (w.setCell p u) g := h.of_block (Below.heap_setCell w p u g hp)
theorem BagAt.drewN (h : BagAt w g) (n : Nat) : BagAt (w.drewN n) g := h
theorem BagAt.drew (h : BagAt w g) : BagAt w.drew g := h
theorem Bagged.bag (h : Bagged g w w') (hb : BagAt w g) : BagAt w' g := by
  obtain ⟨s, n, rfl⟩ := h
  obtain ⟨s0, hb⟩ := hb
  refine ⟨s, ?_⟩
  show (w.setCell ⟨g, 0, none⟩ (.int .u64 s)).heap[g]? = _
  simp [World.setCell, Array.getElem?_modify, hb]
theorem Bagged.size (h : Bagged g w w') : w'.heap.size = w.heap.size := by obtain ⟨s, n, rfl⟩ := h; simp [World.setCell, World.drewN]
theorem Bagged.block (h : Bagged g w w') {k : Nat} (hk : k ≠ g) : w'.heap[k]? = w.heap[k]? := by
  obtain ⟨s, n, rfl⟩ := h
  exact Below.heap_setCell w ⟨g, 0, none⟩ (.int .u64 s) k hk
theorem Bagged.cell (h : Bagged g w w') {p : Addr} (hp : p.block ≠ g) : w'.cell? p = w.cell? p := World.cell?_of_block (h.block hp)
theorem Bagged.frozen (h : Bagged g w w') {p : Addr} (hp : p.block ≠ g) : w'.frozen? p = w.frozen? p := World.frozen?_of_block (h.block hp)
theorem Bagged.below {B : Nat} (h : Bagged g w w') (hB : B ≤ g) : Below B w w' := by
  obtain ⟨s, n, rfl⟩ := h
  exact (Below.refl B w).setCell (p := ⟨g, 0, none⟩) hB _ |>.trans ⟨rfl, rfl, rfl, Nat.le_refl _, fun _ _ => rfl⟩
theorem Bagged.grown (h : Bagged g w w') : w.grownBy w' (some g) := by
  have hs := h.size
  have hb := fun k (hk : k ≠ g) => h.block hk
  obtain ⟨s, n, rfl⟩ := h
  exact ⟨rfl, rfl, rfl, by omega, fun k _ hk => hb k (fun e => hk (by rw [e]))⟩
theorem Bagged.trans {w2 : World} (h : Bagged g w w') (h2 : Bagged g w' w2) : Bagged g w w2 := by
  obtain ⟨s, n, rfl⟩ := h
  obtain ⟨s2, n2, rfl⟩ := h2
  refine ⟨s2, n + n2, ?_⟩
  have e : ((w.setCell ⟨g, 0, none⟩ (.int .u64 s)).drewN n).setCell ⟨g, 0, none⟩ (.int .u64 s2) = (w.setCell ⟨g, 0, none⟩ (.int .u64 s2)).drewN n := by
    simp only [World.setCell, World.drewN]
    congr 1
    apply Array.ext_getElem?
    intro i
    simp only [Array.getElem?_modify]
    by_cases hi : g = i
    · subst hi
      simp only [if_true]
      cases hw : w.heap[g]? with
      | none => simp
      | some o => cases o <;> simp
    · simp [hi]
  rw [e, World.drewN_drewN]
end

/-- What Up deals. -/
def UpPost (g : Nat) (m : Int) (w : World) (e : Ending) (w' : World) : Prop := ∃ x : Int, e = .returned (.int .i64 x) ∧ 0 ≤ x ∧ (x ≤ m ∨ x ≤ 0) ∧ Bagged g w w'

theorem Bagged.refl {g : Nat} {w : World} (h : BagAt w g) : Bagged g w w := by
  obtain ⟨s, h⟩ := h
  refine ⟨s, 0, ?_⟩
  have e : (w.setCell ⟨g, 0, none⟩ (.int .u64 s)).heap = w.heap := by
    apply Array.ext_getElem?
    intro i
    simp only [World.setCell, Array.getElem?_modify]
    by_cases hi : g = i
    · subst hi; simp [h]
    · simp [hi]
  have : (w.setCell ⟨g, 0, none⟩ (.int .u64 s)) = w := by
    show { w with heap := (w.setCell ⟨g, 0, none⟩ (.int .u64 s)).heap } = w
    rw [e]
  rw [this]; rfl

set_option maxHeartbeats 400000 in
theorem up_any (g : Nat) (m : Int) (w : World) (hb : BagAt w g) (hm : m ≤ 1000000000) : Calls Try.prog 18 #[.pointer (some ⟨g, 0, none⟩), .int .i64 m] w (UpPost g m w) := by
  by_cases h1 : m < 1
  · go_enter Try.func18, Try.ntmps18
    go_wp2
    go_ret
    exact ⟨0, rfl, by omega, .inr (by omega), Bagged.refl hb⟩
  · obtain ⟨s, hc, hf⟩ := hb.cell
    go_enter Try.func18, Try.ntmps18
    go_wp2_with (go_at_call 63; refine (next_any _ s _ hc hf).mono ?_; rintro e w' ⟨x, s', n, rfl, hx, rfl⟩)
    go_ret
    have h2 : 0 ≤ x / 8192 % (m + 1) := Int.emod_nonneg _ (by omega)
    have h3 : x / 8192 % (m + 1) < m + 1 := Int.emod_lt_of_pos _ (by omega)
    have h4 : wrap64 (x / 8192 % (m + 1)) = x / 8192 % (m + 1) := IntWalk.wrap64_in _ ⟨by omega, by omega⟩
    exact ⟨wrap64 (x / 8192 % (m + 1)), rfl, by omega, .inl (by omega), s', n, rfl⟩

/-- What From deals. -/
def FromPost (g : Nat) (a m : Int) (w : World) (e : Ending) (w' : World) : Prop := ∃ x : Int, e = .returned (.int .i64 x) ∧ a ≤ x ∧ (x ≤ m ∨ x ≤ a) ∧ Bagged g w w'
theorem from_any (g : Nat) (a m : Int) (w : World) (hb : BagAt w g) (h0 : -1000000 ≤ a) (h1 : a ≤ 1000000) (h2 : m ≤ 1000000) (h3 : -1000000 ≤ m) :
    Calls Try.prog 47 #[.pointer (some ⟨g, 0, none⟩), .int .i64 a, .int .i64 m] w (FromPost g a m w) := by
  go_enter Try.func47, Try.ntmps47
  go_wp2_with (go_at_call 18; refine (up_any g _ _ hb (by omega)).mono ?_; rintro e w' ⟨x, rfl, hx0, hx1, hB⟩)
  go_ret
  exact ⟨a + x, rfl, by omega, by omega, hB⟩

def BoolPost (g : Nat) (w : World) (e : Ending) (w' : World) : Prop := ∃ b : Bool, e = .returned (.bool b) ∧ Bagged g w w'
theorem chance_any (g : Nat) (n m : Int) (w : World) (hb : BagAt w g) (h1 : m ≤ 1000000) (h2 : -1000000 ≤ m) :
    Calls Try.prog 28 #[.pointer (some ⟨g, 0, none⟩), .int .i64 n, .int .i64 m] w (BoolPost g w) := by
  go_enter Try.func28, Try.ntmps28
  go_wp2_with (go_at_call 18; refine (up_any g _ _ hb (by omega)).mono ?_; rintro e w' ⟨x, rfl, hx0, hx1, hB⟩)
  go_ret
  exact ⟨_, rfl, hB⟩

/-- What One deals: one of the list. -/
def OnePost (g : Nat) (xs : List Int) (w : World) (e : Ending) (w' : World) : Prop := ∃ x : Int, e = .returned (.int .i64 x) ∧ x ∈ xs ∧ Bagged g w w'
theorem one_any (g : Nat) (b off c : Nat) (xs : List Int) (w : World) (hb : BagAt w g) (hx : Ints w w.heap.size (some ⟨b, off, none⟩) xs) (hg : b ≠ g) (h0 : 0 < xs.length) (h1 : xs.length ≤ 1000000) :
    Calls Try.prog 19 #[.pointer (some ⟨g, 0, none⟩), .slice (some ⟨b, off, none⟩) xs.length c] w (OnePost g xs w) := by
  have hne : ((xs.length : Int) == 0) = false := by rw [beq_eq_false_iff_ne]; omega
  have hcell : ∀ i (hi : i < xs.length), w.cell? ⟨b, off + i, none⟩ = some (.int .i64 xs[i]) := fun i hi => by
    obtain ⟨b', off', h, _, hc⟩ := hx i _ (List.getElem?_eq_getElem hi)
    injection h with h; injection h with h1 h2; subst h1 h2; exact hc
  clear hx
  go_enter Try.func19, Try.ntmps19
  go_wp2_with fail
  refine (up_any g _ _ hb (by omega)).mono ?_
  rintro e w1 ⟨x, rfl, hx0, hx1, hB⟩
  obtain ⟨i, rfl⟩ : ∃ i : Nat, x = i := ⟨x.toNat, by omega⟩
  have hi : i < xs.length := by omega
  have hc : w1.cell? ⟨b, off + i, none⟩ = some (.int .i64 xs[i]) := (hB.cell hg).trans (hcell i hi)
  clear hcell
  go_wp2
  go_ret
  exact ⟨xs[i], rfl, List.getElem_mem hi, hB⟩

def idxFrom (n : Int) : List Int → Int → Int
  | [], _ => -1
  | x :: l, k => if x = n then k else idxFrom n l (k + 1)
/-- The first place of a number in a list, or -1. -/
def idx (xs : List Int) (n : Int) : Int := idxFrom n xs 0
theorem idxFrom_lt (n : Int) : ∀ (xs : List Int) (k : Int), 0 ≤ k → (idxFrom n xs k < 0 ↔ n ∉ xs)
  | [], k, _ => by simp [idxFrom]
  | x :: l, k, hk => by
    simp only [idxFrom]
    split
    · rename_i h; subst h; simp; omega
    · rename_i h
      rw [idxFrom_lt n l (k + 1) (by omega)]
      simp [Ne.symm h]
theorem idx_lt (xs : List Int) (n : Int) : idx xs n < 0 ↔ n ∉ xs := idxFrom_lt n xs 0 (by omega)
theorem idx_ge (xs : List Int) (n : Int) : 0 ≤ idx xs n ↔ n ∈ xs := by
  have := idx_lt xs n
  by_cases h : n ∈ xs
  · simp [h] at this ⊢; omega
  · simp [h] at this ⊢; omega
theorem idxFrom_drop (xs : List Int) (n : Int) (k : Nat) (hk : k < xs.length) : idxFrom n (xs.drop k) k = if xs[k] = n then (k : Int) else idxFrom n (xs.drop (k + 1)) ((k + 1 : Nat) : Int) := by
  rw [List.drop_eq_getElem_cons hk, idxFrom]; rfl

theorem Ints.form {w : World} {B : Nat} {A : Option Addr} {xs : List Int} (h : Ints w B A xs) :
    xs = [] ∨ ∃ b off, A = some ⟨b, off, none⟩ ∧ b < B ∧ ∀ k (hk : k < xs.length), w.cell? ⟨b, off + k, none⟩ = some (.int .i64 xs[k]) := by
  rcases h.cases with h | ⟨b, off, hA, hb, hc⟩
  · exact .inl h
  · exact .inr ⟨b, off, hA, hb, fun k hk => hc k _ (List.getElem?_eq_getElem hk)⟩

set_option maxHeartbeats 400000 in
theorem index_any (A : Option Addr) (c : Nat) (xs : List Int) (n : Int) (B : Nat) (w : World) (hx : Ints w B A xs) (hl : xs.length ≤ 9223372036854775807) :
    Calls Try.prog 109 #[.slice A xs.length c, .int .i64 n] w fun e w' => e = .returned (.int .i64 (idx xs n)) ∧ w = w' := by
  rcases hx.form with rfl | ⟨b, off, rfl, _, hc⟩
  · clear hx
    go_enter Try.func109, Try.ntmps109
    go_wp2
    go_loop [8] (fun i => i = .int .i64 0) (fun _ => 0)
    case atStart => rfl
    case round =>
      obtain rfl := hrel
      go_wp2
      go_ret
      exact ⟨rfl, rfl⟩
  · clear hx
    go_enter Try.func109, Try.ntmps109
    go_wp2
    go_loop [8] (fun i => ∃ k : Nat, k ≤ xs.length ∧ i = .int .i64 k ∧ Hid (idx xs n = idxFrom n (xs.drop k) k)) (fun i => xs.length - (intOf i).toNat)
    case atStart => exact ⟨0, Nat.zero_le _, rfl, rfl⟩
    case round =>
      obtain ⟨k, hk, rfl, hR⟩ := hrel
      by_cases hlt : k < xs.length
      · have hck := hc k hlt
        by_cases he : xs[k] = n
        · have hN : Hid (idx xs n = k) := by show _ = _; rw [hR.out, idxFrom_drop xs n k hlt, if_pos he]
          have hb : (n == xs[k]) = true := by rw [beq_iff_eq]; first | exact he | exact he.symm
          clear hR he
          go_wp2
          go_ret
          exact ⟨by rw [hN.out]; rfl, rfl⟩
        · have hN : Hid (idx xs n = idxFrom n (xs.drop (k + 1)) ((k + 1 : Nat) : Int)) := by show _ = _; rw [hR.out, idxFrom_drop xs n k hlt, if_neg he]
          have hb : (n == xs[k]) = false := by rw [beq_eq_false_iff_ne]; first | exact he | exact Ne.symm he
          clear hR he
          go_wp2
          go_round
          case rel => exact ⟨k + 1, by omega, by go_num, hN⟩
          case measure => simp [intOf]; omega
      · have hN : Hid (idx xs n = -1) := by show _ = _; rw [hR.out, List.drop_eq_nil_of_le (by omega)]; rfl
        clear hR
        go_wp2
        go_ret
        exact ⟨by rw [hN.out]; rfl, rfl⟩

set_option maxHeartbeats 400000 in
theorem seat_any (A : Option Addr) (c : Nat) (xs : List Int) (n : Int) (B : Nat) (w : World) (hx : Ints w B A xs) (hl : xs.length ≤ 9223372036854775807) :
    Calls Try.prog 29 #[.slice A xs.length c, .int .i64 n] w fun e w' => e = .returned (.int .i64 (idx xs n)) ∧ w = w' := by
  rcases hx.form with rfl | ⟨b, off, rfl, _, hc⟩
  · clear hx
    go_enter Try.func29, Try.ntmps29
    go_wp2
    go_loop [5] (fun i => i = .int .i64 0) (fun _ => 0)
    case atStart => rfl
    case round =>
      obtain rfl := hrel
      go_wp2
      go_ret
      exact ⟨rfl, rfl⟩
  · clear hx
    go_enter Try.func29, Try.ntmps29
    go_wp2
    go_loop [5] (fun i => ∃ k : Nat, k ≤ xs.length ∧ i = .int .i64 k ∧ Hid (idx xs n = idxFrom n (xs.drop k) k)) (fun i => xs.length - (intOf i).toNat)
    case atStart => exact ⟨0, Nat.zero_le _, rfl, rfl⟩
    case round =>
      obtain ⟨k, hk, rfl, hR⟩ := hrel
      by_cases hlt : k < xs.length
      · have hck := hc k hlt
        by_cases he : xs[k] = n
        · have hN : Hid (idx xs n = k) := by show _ = _; rw [hR.out, idxFrom_drop xs n k hlt, if_pos he]
          have hb : (xs[k] == n) = true := by rw [beq_iff_eq]; first | exact he | exact he.symm
          clear hR he
          go_wp2
          go_ret
          exact ⟨by rw [hN.out]; rfl, rfl⟩
        · have hN : Hid (idx xs n = idxFrom n (xs.drop (k + 1)) ((k + 1 : Nat) : Int)) := by show _ = _; rw [hR.out, idxFrom_drop xs n k hlt, if_neg he]
          have hb : (xs[k] == n) = false := by rw [beq_eq_false_iff_ne]; first | exact he | exact Ne.symm he
          clear hR he
          go_wp2
          go_round
          case rel => exact ⟨k + 1, by omega, by go_num, hN⟩
          case measure => simp [intOf]; omega
      · have hN : Hid (idx xs n = -1) := by show _ = _; rw [hR.out, List.drop_eq_nil_of_le (by omega)]; rfl
        clear hR
        go_wp2
        go_ret
        exact ⟨by rw [hN.out]; rfl, rfl⟩

theorem contains_any (A : Option Addr) (c : Nat) (xs : List Int) (n : Int) (B : Nat) (w : World) (hx : Ints w B A xs) (hl : xs.length ≤ 9223372036854775807) :
    Calls Try.prog 92 #[.slice A xs.length c, .int .i64 n] w fun e w' => e = .returned (.bool (decide (n ∈ xs))) ∧ w = w' := by
  have hI := index_any A c xs n B w hx hl
  have H := Lib.hid hI; clear hI
  have hE : decide (n ∈ xs) = decide (0 ≤ idx xs n) := decide_eq_decide.2 (idx_ge xs n).symm
  rw [hE]; clear hE
  go_enter Try.func92, Try.ntmps92
  go_wp2_with (go_at_call 109; refine H.out.mono ?_; rintro e w' ⟨rfl, rfl⟩)
  go_ret
  exact ⟨rfl, rfl⟩
end Go.Proofs.Ytpbjpochjagicaa
