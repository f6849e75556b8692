/- Plain definitions and laws for layer 2 (line): what the program computes, as Lean functions on lists of integers. No program in sight. Plain laws: the search meets just the places that are reached. -/
import Derived.KernelRfl
namespace Go.Proofs.YtpbjpochjagicaaGreatDoorRR.Pl

structure Trk where
  a : Int
  b : Int
  km : Int
  gauge : Int
  room : Int
  brake : Int
  heat : Int
  load : Int
  ferry : Bool
instance : Inhabited Trk := ⟨⟨0, 0, 0, 0, 0, 0, 0, 0, false⟩⟩

structure Nt where
  stops : Int
  tracks : List Trk
  shops : List Int

structure Cch where
  gauges : List Int
  size : Int
  load : Int
  brakes : List Int
  heats : List Int
  hooks : Bool

/-- out reports whether a number is outside of bounds. -/
def out (n lo hi : Int) : Bool := decide (n < lo) || decide (hi < n)

/-- rising, from a list's rest on; prev is the number before. -/
def risingFrom (lo hi oe : Int) : Option Int → List Int → Int
  | _, [] => 0
  | prev, n :: l => if out n lo hi then oe else if (match prev with | some p => decide (n ≤ p) | none => false) then 5 else risingFrom lo hi oe (some n) l

def rising (l : List Int) (lo hi oe : Int) : Int := risingFrom lo hi oe none l

/-- the error of one line. -/
def trackErr (stops : Int) (t : Trk) : Int :=
  if out t.a 0 (stops - 1) || out t.b 0 (stops - 1) then 3 else if t.a = t.b then 4
  else if out t.km 1 99 || out t.gauge 1 3 || out t.room 1 9 || out t.brake 0 3 || out t.heat 0 3 || out t.load 1 20 then 1 else 0

def tracksErr (stops : Int) : List Trk → Int
  | [] => 0
  | t :: l => if trackErr stops t = 0 then tracksErr stops l else trackErr stops t

def check (n : Nt) : Int :=
  if out n.stops 1 6 then 1 else if 8 < n.tracks.length then 6
  else if tracksErr n.stops n.tracks = 0 then rising n.shops 0 (n.stops - 1) 3 else tracksErr n.stops n.tracks

def fits (c : Cch) : Int :=
  if c.gauges = [] then 7 else if rising c.gauges 1 3 1 ≠ 0 then rising c.gauges 1 3 1
  else if out c.size 1 9 || out c.load 1 20 then 1 else if rising c.brakes 1 3 1 ≠ 0 then rising c.brakes 1 3 1
  else rising c.heats 1 3 1

def both (n : Nt) (c : Cch) : Int := if check n ≠ 0 then check n else fits c

/-- what bars a car on a line. -/
def barred (c : Cch) (t : Trk) : List Int :=
  (if t.gauge ∈ c.gauges then [] else [1]) ++ (if t.room < c.size then [2] else []) ++ (if t.load < c.load then [3] else []) ++
  (if t.brake ≠ 0 ∧ t.brake ∉ c.brakes then [4] else []) ++ (if t.heat ≠ 0 ∧ t.heat ∉ c.heats then [5] else []) ++
  (if t.ferry = true ∧ c.hooks = false then [6] else [])

abbrev Place := Int × Int

/-- over a line to its other end s. -/
def runTo (shops : List Int) (c : Cch) (reb : Bool) (p : Place) (t : Trk) (s : Int) : Place × Bool × Int :=
  if reb then ((s, p.2), false, 0)
  else match barred c t with
    | b :: _ => ((0, 0), false, b)
    | [] => if t.gauge ≠ p.2 ∧ p.1 ∉ shops then ((0, 0), false, 8) else ((s, t.gauge), decide (t.gauge ≠ p.2), 0)

def runT (shops : List Int) (c : Cch) (reb : Bool) (p : Place) (t : Trk) : Place × Bool × Int :=
  if p.1 = t.a then runTo shops c reb p t t.b
  else if p.1 = t.b then runTo shops c reb p t t.a
  else ((0, 0), false, 7)

/-- run: over the line number k. -/
def run (n : Nt) (c : Cch) (reb : List Int) (p : Place) (k : Nat) : Place × Bool × Int :=
  runT n.shops c (decide ((k : Int) ∈ reb)) p (n.tracks.getD k default)

/-- over the lines from number i on, so many: what is met and what waits. -/
def spread (r : Nat → Place × Bool × Int) : Nat → Nat → List Place → List Place → List Place × List Place
  | 0, _, met, q => (met, q)
  | m + 1, i, met, q => if (r i).2.2 ≠ 0 ∨ (r i).1 ∈ met then spread r m (i + 1) met q else spread r m (i + 1) (met ++ [(r i).1]) (q ++ [(r i).1])

def bfs (r : Place → Nat → Place × Bool × Int) (m : Nat) : Nat → List Place → List Place → List Place
  | 0, met, _ => met
  | _ + 1, met, [] => met
  | f + 1, met, now :: q => bfs r m f (spread (r now) m 0 met q).1 (spread (r now) m 0 met q).2

/-- all places that a car reaches, in the order in which they are met. -/
def reached (n : Nt) (c : Cch) (reb : List Int) (p : Place) : List Place := bfs (run n c reb) n.tracks.length 100 [p] [p]

def comes (n : Nt) (c : Cch) (reb : List Int) (p : Place) (to : Int) : Bool := (reached n c reb p).any fun q => q.1 == to

def question (n : Nt) (c : Cch) (fr g : Int) : Int :=
  if both n c ≠ 0 then both n c else if out fr 0 (n.stops - 1) || decide (g ∉ c.gauges) then 3 else 0

def asked (n : Nt) (c : Cch) (fr g to : Int) : Int :=
  if question n c fr g ≠ 0 then question n c fr g else if out to 0 (n.stops - 1) then 3 else 0

/-- a list with a number more, in order. -/
def insert (n : Int) : List Int → List Int
  | [] => [n]
  | x :: l => if n < x then n :: x :: l else x :: insert n l

/-- a car that was given one thing more. -/
def give (c : Cch) (t : Int) : Cch :=
  if t = 30 then { c with hooks := true } else if 20 < t then { c with heats := insert (t - 20) c.heats }
  else if 10 < t then { c with brakes := insert (t - 10) c.brakes } else { c with gauges := insert t c.gauges }

def given (c : Cch) (l : List Int) : Cch := l.foldl give c

/-- all that a car has not. -/
def missing (c : Cch) : List Int :=
  ([1, 2, 3].filter fun n => decide (n ∉ c.gauges)) ++ (([1, 2, 3].filter fun n => decide (n ∉ c.brakes)).map (10 + ·)) ++
  (([1, 2, 3].filter fun n => decide (n ∉ c.heats)).map (20 + ·)) ++ (if c.hooks then [] else [30])

/-- all lists of so many things of a list, in lexicographic order of their places. -/
def lists : List Int → Nat → List (List Int)
  | _, 0 => [[]]
  | [], _ + 1 => []
  | x :: l, m + 1 => (lists l m).map (x :: ·) ++ lists l (m + 1)

/-- the first list, of the fewest things, that will do. -/
def fewestFrom (all : List Int) (f : List Int → Bool) : Nat → Nat → Option (List Int)
  | 0, _ => none
  | k + 1, m => match (lists all m).find? f with
    | some l => some l
    | none => fewestFrom all f k (m + 1)

def fewest (all : List Int) (f : List Int → Bool) : Option (List Int) := fewestFrom all f (all.length + 1) 0

def lacks (n : Nt) (c : Cch) (fr g to : Int) : Option (List Int) := fewest (missing c) fun l => comes n (given c l) [] (fr, g) to

def nums (m : Nat) : List Int := (List.range m).map fun k : Nat => (k : Int)

def rebuild (n : Nt) (c : Cch) (fr g to : Int) : Option (List Int) := fewest (nums n.tracks.length) fun l => comes n c l (fr, g) to

/-- the greatest number from 1 on that will do; 0 if none does. -/
def greatest (f : Int → Bool) : Nat → Int
  | 0 => 0
  | k + 1 => if f ((k : Int) + 1) then (k : Int) + 1 else greatest f k

def heaviest (n : Nt) (c : Cch) (fr g to : Int) : Int := greatest (fun x => comes n { c with load := x } [] (fr, g) to) 20
def largest (n : Nt) (c : Cch) (fr g to : Int) : Int := greatest (fun x => comes n { c with size := x } [] (fr, g) to) 9

structure Trip where
  way : List Int
  km : Int
  changes : Int

/-- the walk over all ways, depth first: what it finds, in order. -/
def dfs (n : Nt) (r : Place → Nat → Place × Bool × Int) (to : Int) : Nat → List Place → Place → Trip → List Trip
  | 0, _, _, _ => []
  | f + 1, met, p, t =>
    if p.1 = to then [t]
    else (List.range n.tracks.length).flatMap fun i =>
      if (r p i).2.2 ≠ 0 ∨ (r p i).1 ∈ met ++ [p] then []
      else dfs n r to f (met ++ [p]) (r p i).1 ⟨t.way ++ [(i : Int)], t.km + (n.tracks.getD i default).km, t.changes + if (r p i).2.1 then 1 else 0⟩

def lexLess : List Int → List Int → Bool
  | [], [] => false
  | [], _ :: _ => true
  | _ :: _, [] => false
  | x :: l, y :: k => if x < y then true else if y < x then false else lexLess l k

def better (s t : Trip) : Bool :=
  if s.km ≠ t.km then decide (s.km < t.km) else if s.changes ≠ t.changes then decide (s.changes < t.changes) else lexLess s.way t.way

def leastFrom : Option Trip → List Trip → Option Trip
  | b, [] => b
  | none, t :: l => leastFrom (some t) l
  | some b, t :: l => leastFrom (some (if better t b then t else b)) l

def found (n : Nt) (c : Cch) (fr g to : Int) : List Trip := dfs n (run n c []) to 30 [] (fr, g) ⟨[], 0, 0⟩
def way (n : Nt) (c : Cch) (fr g to : Int) : Option Trip := leastFrom none (found n c fr g to)

/-- along a way: changes, the place at which the car does not run (-1: it does), and why. -/
def along (n : Nt) (c : Cch) : Place → List Int → Int → Int → Int × Int × Int
  | _, [], _, ch => (ch, -1, 0)
  | p, k :: l, i, ch => if (run n c [] p k.toNat).2.2 ≠ 0 then (ch, i, (run n c [] p k.toNat).2.2)
    else along n c (run n c [] p k.toNat).1 l (i + 1) (ch + if (run n c [] p k.toNat).2.1 then 1 else 0)

def unknownIn (tracks : Nat) (l : List Int) : Bool := l.any fun k => out k 0 ((tracks : Int) - 1)

def printed (n : Nt) (c : Cch) (fr g : Int) (l : List Int) : Int :=
  if question n c fr g ≠ 0 then question n c fr g else if unknownIn n.tracks.length l then 3 else 0

/-! the net N and the car K of the chapter's examples -/
def netN : Nt := ⟨4, [⟨0, 1, 10, 1, 5, 1, 0, 15, false⟩, ⟨1, 2, 5, 2, 5, 1, 0, 15, false⟩, ⟨0, 2, 20, 1, 3, 0, 0, 15, false⟩, ⟨2, 3, 4, 2, 6, 0, 1, 12, true⟩], [1]⟩
def carK : Cch := ⟨[1, 2], 4, 12, [1], [], false⟩
theorem exWay : way netN carK 0 1 2 = some ⟨[0, 1], 15, 1⟩ := by kernel_rfl
theorem exFirst : along netN carK (0, 1) [0, 1, 3] 0 0 = (1, 2, 5) := by kernel_rfl
theorem exLacks : lacks netN carK 0 1 3 = some [21, 30] := by kernel_rfl
theorem exRebuild : rebuild netN carK 0 2 2 = some [0] := by kernel_rfl
theorem exLargest : largest netN carK 0 1 2 = 5 := by kernel_rfl
end Go.Proofs.YtpbjpochjagicaaGreatDoorRR.Pl

namespace Go.Proofs.YtpbjpochjagicaaGreatDoorRR.Pl

/-- a place is reached from another one over lines below m. -/
inductive Gets (r : Place → Nat → Place × Bool × Int) (m : Nat) (p : Place) : Place → Prop
  | refl : Gets r m p p
  | step {x : Place} {i : Nat} : Gets r m p x → i < m → (r x i).2.2 = 0 → Gets r m p (r x i).1

theorem spread_spec (r : Nat → Place × Bool × Int) : ∀ (m i : Nat) (met q : List Place), met.Nodup →
    ∃ new, spread r m i met q = (met ++ new, q ++ new) ∧ (met ++ new).Nodup ∧ (∀ x ∈ new, ∃ j, i ≤ j ∧ j < i + m ∧ (r j).2.2 = 0 ∧ (r j).1 = x) ∧
      (∀ j, i ≤ j → j < i + m → (r j).2.2 = 0 → (r j).1 ∈ met ++ new)
  | 0, i, met, q, hn => ⟨[], by simp [spread], by simpa using hn, by simp, fun j h1 h2 => by omega⟩
  | m + 1, i, met, q, hn => by
    rw [spread]
    by_cases hc : (r i).2.2 ≠ 0 ∨ (r i).1 ∈ met
    · rw [if_pos hc]
      obtain ⟨new, h1, h2, h3, h4⟩ := spread_spec r m (i + 1) met q hn
      refine ⟨new, h1, h2, fun x hx => ?_, fun j hj1 hj2 hz => ?_⟩
      · obtain ⟨j, a, b, c, d⟩ := h3 x hx
        exact ⟨j, by omega, by omega, c, d⟩
      · rcases Nat.lt_or_ge i j with h | h
        · exact h4 j (by omega) (by omega) hz
        · have : j = i := by omega
          subst this
          rcases hc with hc | hc
          · exact absurd hz hc
          · exact List.mem_append_left _ hc
    · rw [if_neg hc]
      have hc1 : (r i).2.2 = 0 := by
        by_cases h : (r i).2.2 = 0
        · exact h
        · exact absurd (Or.inl h) hc
      have hc2 : (r i).1 ∉ met := fun h => hc (Or.inr h)
      obtain ⟨new, h1, h2, h3, h4⟩ := spread_spec r m (i + 1) (met ++ [(r i).1]) (q ++ [(r i).1]) (by
        rw [List.nodup_append]
        refine ⟨hn, by simp, fun a ha b hb => ?_⟩
        simp at hb; subst hb; rintro rfl; exact hc2 ha)
      refine ⟨(r i).1 :: new, by rw [h1]; simp, by simpa using h2, fun x hx => ?_, fun j hj1 hj2 hz => ?_⟩
      · rcases List.mem_cons.1 hx with rfl | hx
        · exact ⟨i, by omega, by omega, hc1, rfl⟩
        · obtain ⟨j, a, b, c, d⟩ := h3 x hx
          exact ⟨j, by omega, by omega, c, d⟩
      · rcases Nat.lt_or_ge i j with h | h
        · have := h4 j (by omega) (by omega) hz
          simpa using this
        · have : j = i := by omega
          subst this
          simp

theorem length_le_of_nodup_subset {α : Type} [DecidableEq α] : ∀ (l u : List α), l.Nodup → (∀ x ∈ l, x ∈ u) → l.length ≤ u.length
  | [], _, _, _ => by simp
  | x :: l, u, hn, hs => by
    have hx : x ∈ u := hs x (by simp)
    have hn' := List.nodup_cons.1 hn
    have := length_le_of_nodup_subset l (u.erase x) hn'.2 (fun y hy => by
      have hyx : y ≠ x := by rintro rfl; exact hn'.1 hy
      exact (List.mem_erase_of_ne hyx).2 (hs y (by simp [hy])))
    rw [List.length_erase_of_mem hx] at this
    have h0 : 0 < u.length := List.length_pos_of_mem hx
    simp; omega

/-- the search: with fuel enough the result is closed, has what was met, and only what is reached. -/
theorem bfs_spec (r : Place → Nat → Place × Bool × Int) (m : Nat) (p : Place) (U : List Place) (hU : ∀ x, Gets r m p x → x ∈ U) :
    ∀ (f : Nat) (met q : List Place), met.Nodup → (∀ x ∈ met, Gets r m p x) → (∀ x ∈ q, x ∈ met) →
      (∀ x ∈ met, x ∉ q → ∀ i, i < m → (r x i).2.2 = 0 → (r x i).1 ∈ met) → 2 * (U.length - met.length) + q.length < f →
      (bfs r m f met q).Nodup ∧ (∀ x ∈ met, x ∈ bfs r m f met q) ∧ (∀ x ∈ bfs r m f met q, Gets r m p x) ∧
        (∀ x ∈ bfs r m f met q, ∀ i, i < m → (r x i).2.2 = 0 → (r x i).1 ∈ bfs r m f met q)
  | 0, met, q, _, _, _, _, hf => by omega
  | f + 1, met, [], hn, hg, _, hcl, _ => by
    rw [bfs]
    exact ⟨hn, fun x h => h, hg, fun x hx i hi hz => hcl x hx (by simp) i hi hz⟩
  | f + 1, met, now :: q, hn, hg, hq, hcl, hf => by
    rw [bfs]
    obtain ⟨new, h1, h2, h3, h4⟩ := spread_spec (r now) m 0 met q hn
    rw [h1]
    have hnow : now ∈ met := hq now (by simp)
    have hg' : ∀ x ∈ met ++ new, Gets r m p x := fun x hx => by
      rcases List.mem_append.1 hx with hx | hx
      · exact hg x hx
      · obtain ⟨j, _, hj, hz, rfl⟩ := h3 x hx
        exact (hg now hnow).step (by omega) hz
    have hlen := length_le_of_nodup_subset (met ++ new) U h2 (fun x hx => hU x (hg' x hx))
    have := bfs_spec r m p U hU f (met ++ new) (q ++ new) h2 hg' (fun x hx => by
        rcases List.mem_append.1 hx with hx | hx
        · exact List.mem_append_left _ (hq x (by simp [hx]))
        · exact List.mem_append_right _ hx) (fun x hx hxq i hi hz => by
        rcases List.mem_append.1 hx with hx | hx
        · by_cases hxn : x = now
          · subst hxn
            exact h4 i (by omega) (by omega) hz
          · refine List.mem_append_left _ (hcl x hx ?_ i hi hz)
            simp only [List.mem_cons, not_or]
            exact ⟨hxn, fun h => hxq (List.mem_append_left _ h)⟩
        · exact absurd (List.mem_append_right _ hx) hxq) (by
        simp only [List.length_append, List.length_cons] at hlen hf ⊢
        omega)
    exact ⟨this.1, fun x hx => this.2.1 x (List.mem_append_left _ hx), this.2.2⟩

theorem bfs_all (r : Place → Nat → Place × Bool × Int) (m : Nat) (p : Place) (U : List Place) (hU : ∀ x, Gets r m p x → x ∈ U) (f : Nat)
    (hf : 2 * U.length < f) : (bfs r m f [p] [p]).Nodup ∧ ∀ x, x ∈ bfs r m f [p] [p] ↔ Gets r m p x := by
  have hp : 0 < U.length := List.length_pos_of_mem (hU p .refl)
  obtain ⟨h1, h2, h3, h4⟩ := bfs_spec r m p U hU f [p] [p] (by simp) (by simp; exact .refl) (by simp) (by simp) (by simp; omega)
  refine ⟨h1, fun x => ⟨h3 x, fun h => ?_⟩⟩
  induction h with
  | refl => exact h2 p (by simp)
  | step _ hi hz ih => exact h4 _ ih _ hi hz
end Go.Proofs.YtpbjpochjagicaaGreatDoorRR.Pl
