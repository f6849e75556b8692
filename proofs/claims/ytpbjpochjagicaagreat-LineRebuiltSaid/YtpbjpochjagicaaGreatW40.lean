/- Walks: a way is dealt: walkOf. Walks: what bars a car on one line: Bars. What a law's start has dealt: a net and a car in two boxes, and the bag. -/
import Derived.Test.YtpbjpochjagicaaGreatW38
namespace Go.Proofs.YtpbjpochjagicaaGreat
open Go.RowKit

/-- What walkOf deals. -/
def WayDealt (g m : Nat) (w : World) (e : Ending) (w' : World) : Prop := ∃ A c way, e = .returned (.slice A way.length c) ∧ OwnInts w' (w.heap.size + 1) A c way ∧ (∀ x ∈ way, 0 ≤ x ∧ x < (m : Int)) ∧ way.length ≤ 5 ∧ Kb g w w'

end Go.Proofs.YtpbjpochjagicaaGreat

namespace Go.Proofs.YtpbjpochjagicaaGreat
open Go.RowKit

/-- What Bars hands back. -/
def barsOf (n : Pl.Nt) (c : Pl.Cch) (k : Int) : List Int × Int :=
  if Pl.both n c ≠ 0 then ([], Pl.both n c) else if Pl.out k 0 ((n.tracks.length : Int) - 1) then ([], 3) else (Pl.barred c (n.tracks.getD k.toNat default), 0)
def BarsPost (r : List Int × Int) (w : World) (e : Ending) (w' : World) : Prop := ∃ A cp, e = .returned (.tuple #[.slice A r.1.length cp, .int .i64 r.2]) ∧ OwnInts w' w.heap.size A cp r.1 ∧ Below w.heap.size w w'

end Go.Proofs.YtpbjpochjagicaaGreat

namespace Go.Proofs.YtpbjpochjagicaaGreat
open Go.RowKit

/-- A net and a car that the bag in block g has dealt, in boxes P and Q. -/
structure Dealt (g B P Q : Nat) (w : World) (n : Pl.Nt) (n_tA n_sA : Option Addr) (n_tc n_sc : Nat) (c : Pl.Cch) (c_gA c_bA c_hA : Option Addr) (c_gc c_bc c_hc : Nat) : Prop where
  tr : OwnTrks w B n_tA n_tc n.tracks
  sh : OwnInts w B n_sA n_sc n.shops
  ga : OwnInts w B c_gA c_gc c.gauges
  br : OwnInts w B c_bA c_bc c.brakes
  he : OwnInts w B c_hA c_hc c.heats
  b4 : w.heap[P]? = some (.cells #[.int .i64 n.stops, .slice n_tA n.tracks.length n_tc, .slice n_sA n.shops.length n_sc] 25 (0, 0))
  b5 : w.heap[Q]? = some (.cells #[.slice c_gA c.gauges.length c_gc, .int .i64 c.size, .int .i64 c.load, .slice c_bA c.brakes.length c_bc, .slice c_hA c.heats.length c_hc, .bool c.hooks] 27 (0, 0))
  bag : BagAt w g
  gB : g < B
  gP : g < P
  gQ : g < Q
  ck : Pl.check n = 0
  ft : Pl.fits c = 0
  st : 1 ≤ n.stops
  st6 : n.stops ≤ 6
  t8 : n.tracks.length ≤ 8
  s6 : n.shops.length ≤ 6
  ng : 0 < c.gauges.length
  lg : c.gauges.length ≤ 3
  lb : c.brakes.length ≤ 3
  lh : c.heats.length ≤ 3
section
variable {g B P Q : Nat} {w w' : World} {n : Pl.Nt} {n_tA n_sA : Option Addr} {n_tc n_sc : Nat} {c : Pl.Cch} {c_gA c_bA c_hA : Option Addr} {c_gc c_bc c_hc : Nat}
theorem Dealt.kb (h : Dealt g B P Q w n n_tA n_sA n_tc n_sc c c_gA c_bA c_hA c_gc c_bc c_hc) (k : Kb g w w') : Dealt g B P Q w' n n_tA n_sA n_tc n_sc c c_gA c_bA c_hA c_gc c_bc c_hc :=
  have hP := lt_of_block h.b4
  have hQ := lt_of_block h.b5
  { h with
    tr := k.row h.gB h.tr, sh := k.row h.gB h.sh, ga := k.row h.gB h.ga, br := k.row h.gB h.br, he := k.row h.gB h.he
    b4 := (k.block hP (by have := h.gP; omega)).trans h.b4, b5 := (k.block hQ (by have := h.gQ; omega)).trans h.b5, bag := k.bag }
theorem Dealt.bagged (h : Dealt g B P Q w n n_tA n_sA n_tc n_sc c c_gA c_bA c_hA c_gc c_bc c_hc) (k : Bagged g w w') : Dealt g B P Q w' n n_tA n_sA n_tc n_sc c c_gA c_bA c_hA c_gc c_bc c_hc := h.kb ((Kb.refl h.bag).bagged k)
theorem Dealt.drew (h : Dealt g B P Q w n n_tA n_sA n_tc n_sc c c_gA c_bA c_hA c_gc c_bc c_hc) : Dealt g B P Q w.drew n n_tA n_sA n_tc n_sc c c_gA c_bA c_hA c_gc c_bc c_hc := h.kb (Kb.refl h.bag).drew
theorem Dealt.alloc (h : Dealt g B P Q w n n_tA n_sA n_tc n_sc c c_gA c_bA c_hA c_gc c_bc c_hc) (o : Obj) : Dealt g B P Q (w.alloc o) n n_tA n_sA n_tc n_sc c c_gA c_bA c_hA c_gc c_bc c_hc := h.kb ((Kb.refl h.bag).alloc o)
theorem Dealt.below (h : Dealt g B P Q w n n_tA n_sA n_tc n_sc c c_gA c_bA c_hA c_gc c_bc c_hc) (k : Below w.heap.size w w') : Dealt g B P Q w' n n_tA n_sA n_tc n_sc c c_gA c_bA c_hA c_gc c_bc c_hc :=
  h.kb ⟨h.bag.below k h.bag.lt, k.os, k.tape, k.output, k.size, fun i hi _ => k.block i hi⟩
theorem Dealt.nreads (h : Dealt g B P Q w n n_tA n_sA n_tc n_sc c c_gA c_bA c_hA c_gc c_bc c_hc) : NReads w w.heap.size n n_tA n_sA n_tc n_sc := ⟨h.tr.trks, h.sh.ints, by have := h.t8; omega, by have := h.s6; omega⟩
theorem Dealt.creads (h : Dealt g B P Q w n n_tA n_sA n_tc n_sc c c_gA c_bA c_hA c_gc c_bc c_hc) : CReads w w.heap.size c c_gA c_bA c_hA c_gc c_bc c_hc := ⟨h.ga.ints, h.br.ints, h.he.ints, by have := h.lg; omega, by have := h.lb; omega, by have := h.lh; omega⟩
theorem Dealt.ncells (h : Dealt g B P Q w n n_tA n_sA n_tc n_sc c c_gA c_bA c_hA c_gc c_bc c_hc) : w.cell? ⟨P, 0, none⟩ = some (.int .i64 n.stops) ∧ w.cell? ⟨P, 1, none⟩ = some (.slice n_tA n.tracks.length n_tc) ∧ w.cell? ⟨P, 2, none⟩ = some (.slice n_sA n.shops.length n_sc) :=
  ⟨blk_cell h.b4 0, blk_cell h.b4 1, blk_cell h.b4 2⟩
theorem Dealt.ccells (h : Dealt g B P Q w n n_tA n_sA n_tc n_sc c c_gA c_bA c_hA c_gc c_bc c_hc) : w.cell? ⟨Q, 0, none⟩ = some (.slice c_gA c.gauges.length c_gc) ∧ w.cell? ⟨Q, 1, none⟩ = some (.int .i64 c.size) ∧ w.cell? ⟨Q, 2, none⟩ = some (.int .i64 c.load) ∧
    w.cell? ⟨Q, 3, none⟩ = some (.slice c_bA c.brakes.length c_bc) ∧ w.cell? ⟨Q, 4, none⟩ = some (.slice c_hA c.heats.length c_hc) ∧ w.cell? ⟨Q, 5, none⟩ = some (.bool c.hooks) :=
  ⟨blk_cell h.b5 0, blk_cell h.b5 1, blk_cell h.b5 2, blk_cell h.b5 3, blk_cell h.b5 4, blk_cell h.b5 5⟩
/-- The gauges' row. -/
theorem Dealt.gauges (h : Dealt g B P Q w n n_tA n_sA n_tc n_sc c c_gA c_bA c_hA c_gc c_bc c_hc) : ∃ b, c_gA = some ⟨b, 0, none⟩ ∧ b ≠ g := by
  have hg := h.gB
  rcases h.ga.2 with ⟨_, h2⟩ | ⟨b, cap, cur, hv, hb, _⟩
  · have := h.ng; omega
  · injection hv with hv _ _
    exact ⟨b, hv, by omega⟩
theorem Dealt.apart (h : Dealt g B P Q w n n_tA n_sA n_tc n_sc c c_gA c_bA c_hA c_gc c_bc c_hc) : ∀ p, n_tA = some p → p.block ≠ g := fun p hp => by
  subst hp
  have hg := h.gB
  rcases h.tr.2 with ⟨h2, _⟩ | ⟨b, cap, cur, hv, hb, _⟩
  · cases h2
  · injection hv with hv _ _
    injection hv with hv
    subst hv
    show b ≠ g
    omega
theorem Dealt.both (h : Dealt g B P Q w n n_tA n_sA n_tc n_sc c c_gA c_bA c_hA c_gc c_bc c_hc) : Pl.both n c = 0 := by simp [Pl.both, h.ck, h.ft]
theorem Dealt.question (h : Dealt g B P Q w n n_tA n_sA n_tc n_sc c c_gA c_bA c_hA c_gc c_bc c_hc) {fr gg : Int} (h0 : 0 ≤ fr) (h1 : fr ≤ n.stops - 1) (hg : gg ∈ c.gauges) : Pl.question n c fr gg = 0 := by
  have ho : Pl.out fr 0 (n.stops - 1) = false := by simp [Pl.out]; omega
  simp [Pl.question, h.both, ho, hg]
theorem Dealt.printed (h : Dealt g B P Q w n n_tA n_sA n_tc n_sc c c_gA c_bA c_hA c_gc c_bc c_hc) {fr gg : Int} {way : List Int} (h0 : 0 ≤ fr) (h1 : fr ≤ n.stops - 1) (hg : gg ∈ c.gauges) (hw : ∀ x ∈ way, 0 ≤ x ∧ x < (n.tracks.length : Int)) : Pl.printed n c fr gg way = 0 := by
  have hu : Pl.unknownIn n.tracks.length way = false := by
    rw [Pl.unknownIn, List.any_eq_false]
    intro x hx
    have := hw x hx
    simp [Pl.out]
    omega
  simp [Pl.printed, h.question h0 h1 hg, hu]
end
theorem fits_dealt {c : Pl.Cch} (h0 : 0 < c.gauges.length) (h1 : Pl.rising c.gauges 1 3 1 = 0) (h2 : Pl.rising c.brakes 1 3 1 = 0) (h3 : Pl.rising c.heats 1 3 1 = 0) (h4 : 2 ≤ c.size) (h5 : c.size ≤ 5) (h6 : 6 ≤ c.load) (h7 : c.load ≤ 12) : Pl.fits c = 0 := by
  have e : ¬ c.gauges = [] := by intro e; rw [e] at h0; simp at h0
  have o1 : Pl.out c.size 1 9 = false := by simp [Pl.out]; omega
  have o2 : Pl.out c.load 1 20 = false := by simp [Pl.out]; omega
  simp [Pl.fits, e, h1, h2, h3, o1, o2]
/-- What the start of a law has dealt, put together. -/
theorem dealt_of {g : Nat} {st tk : Int} {w1 w2 w3 w4 : World} {P Q : Nat} (n : Pl.Nt) (n_tA n_sA : Option Addr) (n_tc n_sc : Nat) (c : Pl.Cch) (c_gA c_bA c_hA : Option Addr) (c_gc c_bc c_hc : Nat) (hg : g < w1.heap.size) (htr : OwnTrks w2 (w1.heap.size + 2) n_tA n_tc n.tracks) (hsh : OwnInts w2 (w1.heap.size + 2) n_sA n_sc n.shops)
    (hn : Pl.check n = 0 ∧ 1 ≤ n.stops ∧ n.stops ≤ st ∧ (n.tracks.length : Int) ≤ tk ∧ n.shops.length ≤ 6) (hst : st ≤ 6) (htk : tk ≤ 8) (k12 : Kb g w1 w2)
    (hga : OwnInts w3 (w2.heap.size + 2) c_gA c_gc c.gauges) (hbr : OwnInts w3 (w2.heap.size + 2) c_bA c_bc c.brakes) (hhe : OwnInts w3 (w2.heap.size + 2) c_hA c_hc c.heats)
    (hc : 0 < c.gauges.length ∧ Pl.rising c.gauges 1 3 1 = 0 ∧ Pl.rising c.brakes 1 3 1 = 0 ∧ Pl.rising c.heats 1 3 1 = 0 ∧ 2 ≤ c.size ∧ c.size ≤ 5 ∧ 6 ≤ c.load ∧ c.load ≤ 12 ∧ c.gauges.length ≤ 3 ∧ c.brakes.length ≤ 3 ∧ c.heats.length ≤ 3)
    (k23 : Kb g w2 w3) (k34 : Below w3.heap.size w3 w4) (hP : w4.heap[P]? = some (.cells #[.int .i64 n.stops, .slice n_tA n.tracks.length n_tc, .slice n_sA n.shops.length n_sc] 25 (0, 0))) (hQ : w4.heap[Q]? = some (.cells #[.slice c_gA c.gauges.length c_gc, .int .i64 c.size, .int .i64 c.load, .slice c_bA c.brakes.length c_bc, .slice c_hA c.heats.length c_hc, .bool c.hooks] 27 (0, 0))) (hgP : w3.heap.size ≤ P) (hgQ : w3.heap.size ≤ Q) :
    Dealt g (w1.heap.size + 2) P Q w4 n n_tA n_sA n_tc n_sc c c_gA c_bA c_hA c_gc c_bc c_hc := by
  have s12 := k12.size
  have s23 := k23.size
  have k : Kb g w3 w4 := ⟨k23.bag.below k34 (by omega), k34.os, k34.tape, k34.output, k34.size, fun i hi _ => k34.block i hi⟩
  obtain ⟨n1, n2, n3, n4, n5⟩ := hn
  obtain ⟨c1, c2, c3, c4, c5, c6, c7, c8, c9, c10, c11⟩ := hc
  exact ⟨k.row (by omega) (k23.row (by omega) htr), k.row (by omega) (k23.row (by omega) hsh), own_weaken (k.row (by omega) hga) (by omega), own_weaken (k.row (by omega) hbr) (by omega), own_weaken (k.row (by omega) hhe) (by omega),
    hP, hQ, k.bag, by omega, by omega, by omega, n1, fits_dealt c1 c2 c3 c4 c5 c6 c7 c8, n2, by omega, by omega, n5, c1, c9, c10, c11⟩
end Go.Proofs.YtpbjpochjagicaaGreat
