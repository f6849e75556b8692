/- A channel with room in its buffer, in one goroutine: regions that send and receive, one operation after the other. Maps whose keys are places (a struct of two integers) and whose elements are bools. Ranging over a map keyed by places. -/
import Derived.Test.YtpbjpochjagicaaGreatDoorRRW10
import Derived.Conc.LoneCalls
import Derived.ChangeKeysEq
namespace Go.Proofs.YtpbjpochjagicaaGreatDoorRR
open Go.RowKit Go.Conc

section
variable {P : Program} {ops : Array Oper} {Q : Exit → Act → World → Prop} {a : Act} {w : World}

/-- What is left of a region leads on. -/
def OpsTo (P : Program) (ops : Array Oper) (Q : Exit → Act → World → Prop) (l : List Nat) (a : Act) (w : World) : Prop :=
  ∀ (b : Frame) (k : List Item) (cs : List Frame), ∃ e a' w', Q e a' w' ∧ Arrives P (lone (b.at a (.inRegion ops l :: k)) cs w) b k cs e a' w'

theorem opsTo_region {id : Nat} (h : OpsTo P ops Q (List.range ops.size) a w) : (Code.region id ops false).wp P Q a w :=
  fun b k cs => let ⟨e, a', w', q, r⟩ := h b k cs; ⟨e, a', w', q, .of_steps (.one step_region) r⟩
theorem opsTo_nil (h : Q .normal a w) : OpsTo P ops Q [] a w := fun _ _ _ => ⟨.normal, a, w, h, .one step_region_end⟩
theorem opsTo_value {i : Nat} {rest : List Nat} {o : Oper} (ho : ops[i]? = some o) (hg : o.guard = none) {v : Value} {w1 : World} (hrun : (execOp a.eval o).run P w = .ok (.value v) w1)
    (h : OpsTo P ops Q rest (a.put o.dst v) w1) : OpsTo P ops Q (i :: rest) a w := by
  intro b k cs
  obtain ⟨e, a', w', q, r⟩ := h b k cs
  refine ⟨e, a', w', q, .of_steps (.one (step_lone_go ?_)) r⟩
  have hs := stepG_op (P := P) (b := b) (a := a) (k := k) (cs := cs) (w := w) (rest := rest) ho (by simp [Region.wanted, hg])
  have hf : (b.at a (.inRegion ops (i :: rest) :: k)).finish v = b.at (a.put o.dst v) (.inRegion ops rest :: k) := by rw [Frame.finish_at, ho]; rfl
  rw [hs, ← hf]; simp [stepG.apply, hrun]
theorem opsTo_skip {i : Nat} {rest : List Nat} {o : Oper} (ho : ops[i]? = some o) (hg : o.guard = none) {w1 : World} (hrun : (execOp a.eval o).run P w = .ok .skip w1)
    (h : OpsTo P ops Q rest (a.put o.dst undef) w1) : OpsTo P ops Q (i :: rest) a w := by
  intro b k cs
  obtain ⟨e, a', w', q, r⟩ := h b k cs
  refine ⟨e, a', w', q, .of_steps (.one (step_lone_go ?_)) r⟩
  have hs := stepG_op (P := P) (b := b) (a := a) (k := k) (cs := cs) (w := w) (rest := rest) ho (by simp [Region.wanted, hg])
  have hf : (b.at a (.inRegion ops (i :: rest) :: k)).finish undef = b.at (a.put o.dst undef) (.inRegion ops rest :: k) := by rw [Frame.finish_at, ho]; rfl
  rw [hs, ← hf]; simp [stepG.apply, hrun]
theorem opsTo_send {i : Nat} {rest : List Nat} {o : Oper} (ho : ops[i]? = some o) (hg : o.guard = none) (ch x : Operand) (hop : o.op = .send ch x) {c cap s r : Nat} {buf : Array Value} {tm : Bool} {v : Value}
    (hch : a.eval ch = .chan (some c)) (hv : a.eval x = v) (hc : w.heap[c]? = some (.chan cap buf false s r tm)) (hroom : buf.size < cap)
    (h : OpsTo P ops Q rest (a.put o.dst undef) (w.setChan c cap (buf.push v) false (s + 1) r tm)) : OpsTo P ops Q (i :: rest) a w := by
  intro b k cs
  obtain ⟨e, a', w', q, r'⟩ := h b k cs
  have hs := stepG_op (P := P) (b := b) (a := a) (k := k) (cs := cs) (w := w) (rest := rest) ho (by simp [Region.wanted, hg])
  have hf : (b.at a (.inRegion ops (i :: rest) :: k)).finish undef = b.at (a.put o.dst undef) (.inRegion ops rest :: k) := by rw [Frame.finish_at, ho]; rfl
  obtain ⟨es, hes⟩ : ∃ es, stepG P true (G (b.at a (.inRegion ops (i :: rest) :: k)) cs) w = .comm (G (b.at a (.inRegion ops (i :: rest) :: k)) cs) #[scase c v (.tuple #[])] true (.send) w es := by
    show ∃ es, stepG P true { frame := _, callers := cs, status := .running, dying := none } w = _
    rw [hs]
    have hrun : (execOp a.eval o).run P w = .ok (.comm #[scase c v (.tuple #[])] true .send) w := by
      simp [execOp, hop, hch, hv, scase]
    simp only [stepG.apply, Sem.runT_eq, hrun]
    exact ⟨_, rfl⟩
  refine ⟨e, a', w', q, .of_steps (.one ?_) r'⟩
  rw [← hf]
  exact step_lone_send_room hes hc hroom
theorem opsTo_recv {i : Nat} {rest : List Nat} {o : Oper} (ho : ops[i]? = some o) (hg : o.guard = none) (ct et : TypeId) (ch : Operand) (hop : o.op = .recv ct ch false) {c cap s r : Nat} {buf : Array Value} {tm : Bool} {z : Value} {dir : _}
    (hct : P.underlying ct = some (.chan dir et)) (hz : (zeroValue et).run P w = .ok z w)
    (hch : a.eval ch = .chan (some c)) (hc : w.heap[c]? = some (.chan cap buf false s r tm)) (hsome : 0 < buf.size) {v : Value} (hv : buf.getD 0 undef = v)
    (h : OpsTo P ops Q rest (a.put o.dst v) (w.setChan c cap (buf.extract 1 buf.size) false s (r + 1) tm)) : OpsTo P ops Q (i :: rest) a w := by
  subst hv
  intro b k cs
  obtain ⟨e, a', w', q, r'⟩ := h b k cs
  have hs := stepG_op (P := P) (b := b) (a := a) (k := k) (cs := cs) (w := w) (rest := rest) ho (by simp [Region.wanted, hg])
  have hf : (b.at a (.inRegion ops (i :: rest) :: k)).finish (buf.getD 0 undef) = b.at (a.put o.dst (buf.getD 0 undef)) (.inRegion ops rest :: k) := by rw [Frame.finish_at, ho]; rfl
  obtain ⟨es, hes⟩ : ∃ es, stepG P true (G (b.at a (.inRegion ops (i :: rest) :: k)) cs) w = .comm (G (b.at a (.inRegion ops (i :: rest) :: k)) cs) #[rcase c z] true (.recv false) w es := by
    show ∃ es, stepG P true { frame := _, callers := cs, status := .running, dying := none } w = _
    rw [hs]
    have hrun : (execOp a.eval o).run P w = .ok (.comm #[rcase c z] true (.recv false)) w := by
      simp [execOp, hop, hch, run_underlying hct, hz, rcase]
    simp only [stepG.apply, Sem.runT_eq, hrun]
    exact ⟨_, rfl⟩
  refine ⟨e, a', w', q, .of_steps (.one ?_) r'⟩
  rw [← hf]
  exact step_lone_recv_buf false hes hc hsome
end
end Go.Proofs.YtpbjpochjagicaaGreatDoorRR

namespace Go.Proofs.YtpbjpochjagicaaGreatDoorRR
open Go.RowKit

def pv (p : Pl.Place) : Value := .agg #[.int .i64 p.1, .int .i64 p.2]
def ents (es : List (Pl.Place × Nat)) : Array MapEntry := (es.map fun e => { key := pv e.1, val := .bool true, born := e.2 }).toArray
def MapIs (w : World) (g : Nat) (es : List (Pl.Place × Nat)) (clock : Nat) : Prop := w.heap[g]? = some (.map (ents es) clock)
def setMap (w : World) (g : Nat) (es : List (Pl.Place × Nat)) (clock : Nat) : World := { w with heap := w.heap.setIfInBounds g (.map (ents es) clock) }

theorem eq_in (d : Nat) (p q : Pl.Place) (w : World) : (Op.equalIn (d + 2) 64 (pv p) (pv q)).run Tryz.prog w = .ok (p == q) w := by
  have hs : Tryz.prog.stoodInHeld 64 = false := by kernel_rfl
  have hf : Tryz.prog.underlying 64 = some (.struct (Tryz.prog.fieldsOf 64)) := by kernel_rfl
  have hfs : (Tryz.prog.fieldsOf 64).toList = [{ name := "station", type := 3, offset := 0, embedded := false, tag := "", pkgPath := "couchette/line", byteOffset := 0 }, { name := "gauge", type := 3, offset := 1, embedded := false, tag := "", pkgPath := "couchette/line", byteOffset := 8 }] := by kernel_rfl
  have hk : Tryz.prog.plainKey 3 = true := by kernel_rfl
  obtain ⟨a, b⟩ := p
  obtain ⟨c, e⟩ := q
  have hpe : ((a, b) == (c, e)) = (a == c && b == e) := rfl
  have ei := fun (x y : Int) => run_equalIn_int (P := Tryz.prog) w d 3 .i64 .i64 x y Tryz.underlying3
  have pp := fun (xs : Array Value) (off : Nat) (v : Value) (h : xs[off]? = some v) => run_part_plain (P := Tryz.prog) (w := w) hk h
  rw [hpe]
  simp only [pv]
  rw [run_equalIn_struct w (d + 1) 64 _ _ hf hs, hfs]
  simp only [Op.eqFields, Sem.run_bind, Sem.run_ite]
  simp [pp #[.int .i64 a, .int .i64 b] 0 (.int .i64 a) rfl, pp #[.int .i64 c, .int .i64 e] 0 (.int .i64 c) rfl, pp #[.int .i64 a, .int .i64 b] 1 (.int .i64 b) rfl, pp #[.int .i64 c, .int .i64 e] 1 (.int .i64 e) rfl, ei]
  cases h1 : (a == c) <;> cases h2 : (b == e) <;> simp_all

theorem equal_pv (p q : Pl.Place) (w : World) : (Op.equal 64 (pv p) (pv q)).run Tryz.prog w = .ok (p == q) w := eq_in 9998 p q w

theorem find_asking (p : Pl.Place) (w : World) : ∀ (es : List (Pl.Place × Nat)) (i : Nat),
    (Instr.findAsking 64 (pv p) (es.map fun e => { key := pv e.1, val := .bool true, born := e.2 }) i).run Tryz.prog w = .ok ((es.findIdx? (fun e => p == e.1)).map fun j => (i + j, .bool true)) w
  | [], i => by simp [Instr.findAsking]
  | e :: es, i => by
    simp only [List.map_cons, Instr.findAsking, Sem.run_bind, equal_pv, Result.andThen_ok, Sem.run_ite, List.findIdx?_cons]
    cases h : (p == e.1)
    · simp only [Bool.false_eq_true, if_false]
      rw [find_asking p w es (i + 1)]
      cases es.findIdx? (fun e => p == e.1) <;> simp <;> omega
    · simp

theorem find_key (p : Pl.Place) (w : World) (es : List (Pl.Place × Nat)) :
    (Instr.findKey 64 (pv p) (ents es).toList).run Tryz.prog w = .ok ((es.findIdx? (fun e => p == e.1)).map fun j => (j, .bool true)) w := by
  simp only [Instr.findKey, Sem.run_bind, run_underlying Tryz.underlying64, Result.andThen_ok, ents]
  cases es with
  | nil => simp [Instr.findNow]
  | cons e es =>
    have : Instr.findNow (.struct #[{ name := "station", type := 3, offset := 0, embedded := false, tag := "", pkgPath := "couchette/line", byteOffset := 0 }, { name := "gauge", type := 3, offset := 1, embedded := false, tag := "", pkgPath := "couchette/line", byteOffset := 8 }]) (pv p) (((e :: es).map fun e => ({ key := pv e.1, val := .bool true, born := e.2 } : MapEntry)).toArray).toList 0 = none := by
      simp [Instr.findNow, Instr.sameNow]
    rw [this]
    have h := find_asking p w (e :: es) 0
    simpa using h

theorem check_int (b : Bool) (d : Nat) (x : Int) (w : World) : (Instr.checkKey b (d + 1) 3 (.int .i64 x)).run Tryz.prog w = .ok () w := by
  simp [Instr.checkKey, run_underlying Tryz.underlying3]
theorem check_in (b : Bool) (d : Nat) (p : Pl.Place) (w : World) : (Instr.checkKey b (d + 2) 64 (pv p)).run Tryz.prog w = .ok () w := by
  have hk : Tryz.prog.plainKey 3 = true := by kernel_rfl
  obtain ⟨a, c⟩ := p
  have pp := fun (xs : Array Value) (off : Nat) (v : Value) (h : xs[off]? = some v) => run_part_plain (P := Tryz.prog) (w := w) hk h
  have e : Instr.checkKey b (d + 2) 64 (pv (a, c)) = (do
    match ← underlying 64, pv (a, c) with
    | .interface _, .iface t x =>
      let info ← typeInfo t
      if !info.comparable then
        if b then runtimePanic (.unhashable t)
        runtimePanic (.error ("hash of unhashable type " ++ (← typeStr t)))
      Instr.checkKey b (d + 1) t x
    | .array len elem, .agg cs =>
      for i in [0:len] do Instr.checkKey b (d + 1) elem (← part elem cs (i * (← sizeOf elem)))
    | .struct fields, .agg cs =>
      for f in fields do
        if f.name ≠ "_" then Instr.checkKey b (d + 1) f.type (← part f.type cs f.offset)
    | .interface _, .nilIface => pure ()
    | .interface _, _ | .array _ _, _ | .struct _, _ => stuck "map key: not a value of its type"
    | _, _ => pure ()) := rfl
  rw [e]
  simp only [pv, Sem.run_bind, run_underlying Tryz.underlying64, Result.andThen_ok]
  simp [pp #[.int .i64 a, .int .i64 c] 0 (.int .i64 a) rfl, pp #[.int .i64 a, .int .i64 c] 1 (.int .i64 c) rfl, check_int]
theorem check_key (b : Bool) (p : Pl.Place) (w : World) : (Instr.checkKey b 10000 64 (pv p)).run Tryz.prog w = .ok () w := check_in b 9998 p w

theorem keys_find {p : Pl.Place} : ∀ {es : List (Pl.Place × Nat)}, (es.findIdx? (fun e => p == e.1)).isSome = decide (p ∈ es.map Prod.fst)
  | [] => by simp
  | e :: es => by
    rw [List.findIdx?_cons]
    cases h : (p == e.1)
    · have hne : p ≠ e.1 := by simpa using h
      have ih := keys_find (p := p) (es := es)
      simp only [Option.isSome_map, Bool.false_eq_true, if_false, ih]
      simp [hne]
    · have : p = e.1 := by simpa using h
      simp [this]

theorem zero_bool (w : World) : (zeroValue 4).run Tryz.prog w = .ok (.bool false) w := by kernel_rfl

theorem run_look {w : World} {g : Nat} {es : List (Pl.Place × Nat)} {clock : Nat} (h : MapIs w g es clock) (p : Pl.Place) :
    (Instr.lookup 61 (.map (some g)) (pv p) false).run Tryz.prog w = .ok (.bool (decide (p ∈ es.map Prod.fst))) w := by
  have h' : w.heap[g]? = some (.map (ents es) clock) := h
  have hk := keys_find (p := p) (es := es)
  simp only [Instr.lookup, Sem.run_bind, run_underlying Tryz.underlying61, Result.andThen_ok]
  simp only [getObj, Sem.run, h', Result.andThen_ok, Sem.run_bind, Sem.run_pure, check_key, find_key]
  cases hf : es.findIdx? (fun e => p == e.1) with
  | none => rw [hf] at hk; simp [← hk]
  | some j => rw [hf] at hk; simp [← hk]

theorem run_put {w : World} {g : Nat} {es : List (Pl.Place × Nat)} {clock : Nat} (h : MapIs w g es clock) (p : Pl.Place) (hp : p ∉ es.map Prod.fst) :
    (Instr.mapUpdate 61 (.map (some g)) (pv p) (.bool true)).run Tryz.prog w = .ok () (setMap w g (es ++ [(p, clock)]) (clock + 1)) := by
  have h' : w.heap[g]? = some (.map (ents es) clock) := h
  have hk := keys_find (p := p) (es := es)
  have hn : es.findIdx? (fun e => p == e.1) = none := by
    rw [decide_eq_false hp] at hk
    simpa using hk
  simp only [Instr.mapUpdate, Sem.run_bind, run_underlying Tryz.underlying61, Result.andThen_ok]
  simp only [getObj, setObj, Sem.run, h', Result.andThen_ok, Sem.run_bind, check_key, find_key, hn]
  simp only [Option.map_none, Sem.run, h']
  simp [setMap, ents]

/-- 'delete(m, p)' of the last entry. -/
theorem run_drop {w : World} {g : Nat} {es : List (Pl.Place × Nat)} {b clock : Nat} {p : Pl.Place} (h : MapIs w g (es ++ [(p, b)]) clock) (hp : p ∉ es.map Prod.fst) :
    (Builtin.delete_ #[61, 64] 0 #[.map (some g), pv p]).run Tryz.prog w = .ok (.tuple #[]) (setMap w g es clock) := by
  have h' : w.heap[g]? = some (.map (ents (es ++ [(p, b)])) clock) := h
  have hn : (es ++ [(p, b)]).findIdx? (fun e => p == e.1) = some es.length := by
    have hk := keys_find (p := p) (es := es)
    rw [decide_eq_false hp] at hk
    have h0 : es.findIdx? (fun e => p == e.1) = none := by simpa using hk
    rw [List.findIdx?_append, h0]
    simp [List.findIdx?_cons]
  have he : (ents (es ++ [(p, b)])).eraseIdxIfInBounds es.length = ents es := by
    apply Array.ext'
    simp [ents, Array.eraseIdxIfInBounds]
    rw [List.eraseIdx_append_of_length_le (by simp)]
    simp
  simp only [Builtin.delete_, Sem.run_bind, Result.andThen_ok, List.getElem?_toArray, List.getElem?_cons_zero, List.getElem?_cons_succ, run_underlying Tryz.underlying61]
  simp only [getObj, setObj, Sem.run, h', Result.andThen_ok, Sem.run_bind, Sem.run_pure, check_key, find_key, hn, Option.map_some, he]
  rfl
end Go.Proofs.YtpbjpochjagicaaGreatDoorRR

namespace Go.Proofs.YtpbjpochjagicaaGreatDoorRR
open Go.RowKit

/-- The iterator in block r over map g has handed out the entries of these stamps. -/
def IterIs (w : World) (r g : Nat) (seen : Array Nat) (clock : Nat) : Prop := w.heap[r]? = some (.mapIter (some g) clock seen clock)
def setIter (w : World) (r g : Nat) (seen : Array Nat) (clock : Nat) : World := { w with heap := w.heap.setIfInBounds r (.mapIter (some g) clock seen clock) }

theorem run_range {w : World} {g : Nat} {es : List (Pl.Place × Nat)} {clock : Nat} (h : MapIs w g es clock) :
    (Instr.range 61 (.map (some g))).run Tryz.prog w = .ok (.pointer (some ⟨w.heap.size, 0, none⟩)) (w.alloc (.mapIter (some g) clock #[] clock)) := by
  have h' : w.heap[g]? = some (.map (ents es) clock) := h
  simp only [Instr.range, Sem.run_bind, run_underlying Tryz.underlying61, Result.andThen_ok]
  simp only [getObj, newObj, Sem.run, h', Result.andThen_ok, Sem.run_bind, Sem.run_pure]
  rfl

theorem choose_run {P : Program} {n : Nat} (hn : 0 < n) (w : World) : ∃ i k, i < n ∧ (choose (.mapNext n)).run P w = .ok i (w.drewN k) := by
  by_cases h1 : n ≤ 1
  · exact ⟨0, 0, hn, by simp [choose, Sem.run, Question.forced, h1]; rfl⟩
  · exact ⟨(w.tape w.drawn (.mapNext n)) % n, 1, Nat.mod_lt _ hn, by simp [choose, Sem.run, Question.forced, Question.cut, h1]; rfl⟩

theorem ents_left (es : List (Pl.Place × Nat)) (seen : Array Nat) : (ents es).filter (fun e => !seen.contains e.born) = ents (es.filter fun e => !seen.contains e.2) := by
  apply Array.ext'
  simp only [ents, Array.toList_filter, List.filter_map]
  rfl
theorem ents_old {es : List (Pl.Place × Nat)} {clock : Nat} (hb : ∀ e ∈ es, e.2 < clock) : (ents es).filter (fun e => decide (e.born < clock)) = ents es := by
  apply Array.ext'
  simp only [ents, Array.toList_filter, List.filter_map]
  rw [List.filter_eq_self.2 (fun e he => by simpa using hb e he)]
theorem ents_new {es : List (Pl.Place × Nat)} {clock : Nat} (hb : ∀ e ∈ es, e.2 < clock) : (ents es).filter (fun e => decide (e.born ≥ clock)) = #[] := by
  apply Array.ext'
  simp only [ents, Array.toList_filter, List.filter_map]
  rw [List.filter_eq_nil_iff.2 (fun e he => by have := hb e he; simp; omega)]
  rfl

/-- One step of the iterator. -/
theorem run_next {w : World} {r g : Nat} {es : List (Pl.Place × Nat)} {seen : Array Nat} {clock : Nat} (ty : TypeId) (h : MapIs w g es clock) (hr : IterIs w r g seen clock) (hb : ∀ e ∈ es, e.2 < clock) :
    ((∀ e ∈ es, e.2 ∈ seen) ∧ ∃ k, (Instr.next (.pointer (some ⟨r, 0, none⟩)) false ty).run Tryz.prog w = .ok (.tuple #[.bool false]) (w.drewN k)) ∨
    (∃ e k, e ∈ es ∧ e.2 ∉ seen ∧ (Instr.next (.pointer (some ⟨r, 0, none⟩)) false ty).run Tryz.prog w = .ok (.tuple #[.bool true, pv e.1, .bool true]) (setIter (w.drewN k) r g (seen.push e.2) clock)) := by
  have h' : w.heap[g]? = some (.map (ents es) clock) := h
  have hr' : w.heap[r]? = some (.mapIter (some g) clock seen clock) := hr
  have hq : (!seen.isEmpty && !(ents es).isEmpty && (ents es).all (fun e => decide (e.born ≥ clock))) = false := by
    cases es with
    | nil => simp [ents]
    | cons e es =>
      have := hb e (by simp)
      simp [ents]
      intro _ h2
      omega
  have hbL : ∀ e ∈ es.filter (fun e => !seen.contains e.2), e.2 < clock := fun e he => hb e (List.mem_filter.1 he).1
  simp only [Instr.next, getObj, Sem.run_bind, Sem.run, h', hr', Result.andThen_ok, hq, Bool.false_eq_true, if_false, ents_left, ents_old hbL, ents_new hbL]
  have hmem : ∀ e ∈ es.filter (fun e => !seen.contains e.2), e ∈ es ∧ e.2 ∉ seen := fun e he => by
    have := List.mem_filter.1 he
    exact ⟨this.1, by simpa using this.2⟩
  have hnil : es.filter (fun e => !seen.contains e.2) = [] → ∀ e ∈ es, e.2 ∈ seen := fun h0 e he => by
    have := List.filter_eq_nil_iff.1 h0 e he
    simpa using this
  generalize es.filter (fun e => !seen.contains e.2) = L at hmem hnil
  clear hbL
  cases L with
  | nil =>
    left
    refine ⟨hnil rfl, 0, ?_⟩
    have hc : ((if (ents []).isEmpty = true then #[none] else #[]) ++ Array.map some (ents [] ++ #[]) : Array (Option MapEntry)) = #[none] := by simp [ents]
    rw [hc]
    obtain ⟨i, k, hi, hrun⟩ := choose_run (P := Tryz.prog) (n := (#[none] : Array (Option MapEntry)).size) (by simp) w
    have hi0 : i = 0 := by simpa using hi
    subst hi0
    have h1 : (choose (.mapNext (#[none] : Array (Option MapEntry)).size)).run Tryz.prog w = .ok 0 w := by simp [choose, Sem.run, Question.forced]
    rw [h1]
    simp
    rfl
  | cons e0 L =>
    right
    have hc : ((if (ents (e0 :: L)).isEmpty = true then #[none] else #[]) ++ Array.map some (ents (e0 :: L) ++ #[]) : Array (Option MapEntry)) = (ents (e0 :: L)).map some := by
      have : (ents (e0 :: L)).isEmpty = false := rfl
      rw [this]; simp
    rw [hc]
    obtain ⟨i, k, hi, hrun⟩ := choose_run (P := Tryz.prog) (n := ((ents (e0 :: L)).map some).size) (by simp [ents]) w
    have hi' : i < (e0 :: L).length := by simpa [ents] using hi
    have hget : ((ents (e0 :: L)).map some)[i]? = some (some { key := pv (e0 :: L)[i].1, val := .bool true, born := (e0 :: L)[i].2 }) := by
      rw [Array.getElem?_map]
      have : (ents (e0 :: L))[i]? = some { key := pv (e0 :: L)[i].1, val := .bool true, born := (e0 :: L)[i].2 } := by
        simp only [ents, List.getElem?_toArray, List.getElem?_map, List.getElem?_eq_getElem hi', Option.map_some]
      rw [this]; rfl
    have hm := hmem _ (List.getElem_mem hi')
    refine ⟨(e0 :: L)[i], k, hm.1, hm.2, ?_⟩
    rw [hrun]
    simp only [Result.andThen_ok, hget, Sem.run_bind, setObj, Sem.run, Sem.run_pure]
    have hrk : (w.drewN k).heap[r]? = some (.mapIter (some g) clock seen clock) := hr'
    simp only [hrk]
    rfl

/-- The entry at which the iterator stands. -/
theorem run_entry {w : World} {r g : Nat} {es : List (Pl.Place × Nat)} {seen : Array Nat} {clock : Nat} {e : Pl.Place × Nat} (h : MapIs w g es clock) (hr : IterIs w r g (seen.push e.2) clock) (he : e ∈ es) (hn : (es.map Prod.snd).Nodup) :
    (Instr.entry (.pointer (some ⟨r, 0, none⟩))).run Tryz.prog w = .ok (.tuple #[pv e.1, .bool true]) w := by
  have h' : w.heap[g]? = some (.map (ents es) clock) := h
  have hr' : w.heap[r]? = some (.mapIter (some g) clock (seen.push e.2) clock) := hr
  have hf : (ents es).find? (fun x => x.born == e.2) = some { key := pv e.1, val := .bool true, born := e.2 } := by
    simp only [ents, List.find?_toArray, List.find?_map]
    have : es.find? ((fun x : MapEntry => x.born == e.2) ∘ fun e => { key := pv e.1, val := .bool true, born := e.2 }) = some e := by
      clear h h' hr hr'
      induction es with
      | nil => simp at he
      | cons x es ih =>
        rw [List.find?_cons]
        rcases List.mem_cons.1 he with rfl | he'
        · simp
        · have hx : x.2 ≠ e.2 := by
            intro hx
            simp only [List.map_cons, List.nodup_cons] at hn
            exact hn.1 (hx ▸ List.mem_map_of_mem he')
          have : ((fun x : MapEntry => x.born == e.2) ∘ fun e : Pl.Place × Nat => ({ key := pv e.1, val := .bool true, born := e.2 } : MapEntry)) x = false := by simpa using hx
          rw [this]
          exact ih he' (List.nodup_cons.1 hn).2
    rw [this]; rfl
  simp only [Instr.entry, getObj, Sem.run_bind, Sem.run, hr', Result.andThen_ok]
  simp [hf, Sem.run, h']
end Go.Proofs.YtpbjpochjagicaaGreatDoorRR
