/- Walks: all lines that do not bar a car: Open. -/
import Derived.Test.YtpbjpochjagicaaGreatW10
import Derived.Test.YtpbjpochjagicaaGreatWy
namespace Go.Proofs.YtpbjpochjagicaaGreat
open Go.RowKit

def openTo (n : Pl.Nt) (c : Pl.Cch) (k : Nat) : List Int := ((List.range k).filter fun i => decide ((Pl.barred c (n.tracks.getD i default)).length = 0)).map fun i : Nat => (i : Int)
theorem openTo_in {n : Pl.Nt} {c : Pl.Cch} {k : Nat} (h : (Pl.barred c (n.tracks.getD k default)).length = 0) : openTo n c (k + 1) = openTo n c k ++ [(k : Int)] := by
  unfold openTo
  rw [List.range_succ, List.filter_append, List.map_append, List.filter_cons, if_pos (decide_eq_true h)]
  rfl
theorem openTo_out {n : Pl.Nt} {c : Pl.Cch} {k : Nat} (h : (Pl.barred c (n.tracks.getD k default)).length ≠ 0) : openTo n c (k + 1) = openTo n c k := by
  unfold openTo
  rw [List.range_succ, List.filter_append, List.map_append, List.filter_cons, if_neg (by simpa using h)]
  simp
theorem openTo_length (n : Pl.Nt) (c : Pl.Cch) (k : Nat) : (openTo n c k).length ≤ k := by
  have := List.length_filter_le (fun i => decide ((Pl.barred c (n.tracks.getD i default)).length = 0)) (List.range k)
  simpa [openTo] using this
theorem own_lower {w : World} {base base2 : Nat} {A : Option Addr} {c : Nat} {xs : List Int} (h : OwnInts w base2 A c xs) (hb : base ≤ base2) : OwnInts w base A c xs := by
  refine ⟨h.1, ?_⟩
  rcases h.2 with h2 | ⟨g, cap, cur, hv, hg, r⟩
  · exact .inl h2
  · exact .inr ⟨g, cap, cur, hv, Nat.le_trans hb hg, r⟩
/-- What Open hands back. -/
def openOut (n : Pl.Nt) (c : Pl.Cch) : List Int × Int := if Pl.both n c ≠ 0 then ([], Pl.both n c) else (Pl.openOf n c, 0)
def OpenPost (n : Pl.Nt) (c : Pl.Cch) (w : World) (e : Ending) (w' : World) : Prop :=
  ∃ A cp, e = .returned (.tuple #[.slice A (openOut n c).1.length cp, .int .i64 (openOut n c).2]) ∧ OwnInts w' w.heap.size A cp (openOut n c).1 ∧ Below w.heap.size w w'

end Go.Proofs.YtpbjpochjagicaaGreat
