/-
  A communication in the midst of a usual walk: 'CodeN' is 'Code.wp' for usual frames alone.
-/
import Derived.Test.YtmpeijlfflfkbaaBase
import Derived.Conc.LoneCalls
import Derived.Conc.LoneSelect
import Derived.WalkKit
namespace Go.Shoal
open Go Go.Conc

/-- 'Code.wp' for the frames of usual calls. -/
def CodeN (P : Program) (c : Code) (Q : Exit → Act → World → Prop) (a : Act) (w : World) : Prop :=
  ∀ (b : Frame) (k : List Item) (cs : List Frame), b.kind = .normal → ∃ e a' w', Q e a' w' ∧ Arrives P (lone (b.at a (.code c :: k)) cs w) b k cs e a' w'
section
variable {P : Program} {Q : Exit → Act → World → Prop} {a : Act} {w : World}
theorem CodeN.of_wp {c : Code} (h : c.wp P Q a w) : CodeN P c Q a w := fun b k cs _ => h b k cs
theorem CodeN.seq {x y : Code} (h : CodeN P x (Exit.then (CodeN P y Q) Q) a w) : CodeN P (Code.seq x y) Q a w := by
  intro b k cs hb
  obtain ⟨e, a₁, w₁, hq, harr⟩ := h b (.code y :: k) cs hb
  cases e with
  | normal =>
    obtain ⟨e₂, a₂, w₂, hq₂, harr₂⟩ := hq b k cs hb
    exact ⟨e₂, a₂, w₂, hq₂, .of_steps (.head step_seq harr) harr₂⟩
  | exit id => exact ⟨_, a₁, w₁, hq, .of_steps (.one step_seq) (.pass (x := .code y) rfl (fun _ _ => .inl (by simp)) harr)⟩
  | goto l => exact ⟨_, a₁, w₁, hq, .of_steps (.one step_seq) (.pass (x := .code y) rfl (fun _ _ => .inl (by simp)) harr)⟩
  | ret => exact ⟨_, a₁, w₁, hq, .of_steps (.one step_seq) (.pass (x := .code y) rfl (fun _ _ => .inl (by simp)) harr)⟩
  | panic ch => exact ⟨_, a₁, w₁, hq, .of_steps (.one step_seq) (.pass (x := .code y) rfl (fun _ _ => .inl (by simp)) harr)⟩
  | outgrown => exact ⟨_, a₁, w₁, hq, .of_steps (.one step_seq) (.pass (x := .code y) rfl (fun _ _ => .inl (by simp)) harr)⟩
/-- A prefix that is walked as usual. -/
theorem CodeN.seq_wp {x y : Code} (h : ∀ K : Act → World → Prop, (∀ a w, CodeN P y Q a w → K a w) → x.wp P (Exit.then K Q) a w) : CodeN P (Code.seq x y) Q a w :=
  CodeN.seq (CodeN.of_wp (h _ fun _ _ h => h))
/-- A region whose first operation is a communication, which the machine carries out in one step. -/
theorem CodeN.region_comm {id : Nat} {o : Oper} {l : List Oper} {cases : Array CommCase} {blocking : Bool} {shape : CommShape} {v : Value} {w' w'' : World}
    (hg : o.guard = none) (hr : (execOp a.eval o).run P w = .ok (.comm cases blocking shape) w')
    (hs : ∀ (fr : Frame) (cs : List Frame) (es : Array Event), stepG P true (G fr cs) w = .comm (G fr cs) cases blocking shape w' es → step P (solo (G fr cs) w) = .next (solo (G (fr.finish v) cs) w''))
    (h : wpList P (o :: l).toArray Q l (a.put o.dst v) w'') : CodeN P (Code.region id (o :: l).toArray false) Q a w := by
  intro b k cs hb
  have hz : List.range (o :: l).toArray.size = 0 :: List.range' 1 l.length := by simp [List.range_eq_range', List.range'_succ]
  have hl : wpOps P (o :: l).toArray Q (List.range' 1 l.length) = wpList P (o :: l).toArray Q l := wpOps_eq_wpList l 1 (fun j => by simp [Nat.add_comm])
  rw [← hl] at h
  obtain ⟨e, a', w3, hq, harr⟩ := wp_ops _ _ _ h b k cs
  refine ⟨e, a', w3, hq, .of_steps (.head step_region ?_) harr⟩
  rw [hz]
  have hw : Region.wanted o (yielded (o :: l).toArray a.tmps) = true := by simp [Region.wanted, hg]
  have hc := stepG_comm (P := P) (b := b) (k := k) (cs := cs) (main := true) (ops := (o :: l).toArray) (i := 0) (rest := List.range' 1 l.length) (a := a) (w := w) (by rfl) hw (by rw [hb]; decide) hr
  have hst := hs _ _ _ hc
  have hf : (b.at a (.inRegion (o :: l).toArray (0 :: List.range' 1 l.length) :: k)).finish v = b.at (a.put o.dst v) (.inRegion (o :: l).toArray (List.range' 1 l.length) :: k) := by
    rw [Frame.finish_at]
    rfl
  rw [hf] at hst
  exact .one hst
theorem callsN {f : FuncId} {fn : Func} {c : Code} {args : Array Value} {R : Ending → World → Prop}
    (hf : P.funcs[f]? = some fn) (hb : fn.body = some c)
    (h : CodeN P c (bodyPost P fn R) { tmps := args ++ Array.replicate (fn.ntmps - args.size) undef, defers := [] } w) : Calls P f args w R := by
  intro cs
  let b : Frame := { (default : Frame) with fn := f, kind := .normal }
  have henter : Frame.enter P f args .normal = b.at { tmps := args ++ Array.replicate (fn.ntmps - args.size) undef, defers := [] } [.code c] := by
    simp [Frame.enter, Frame.at, hf, hb, b]
  obtain ⟨e, a', w', hq, harr⟩ := h b [] cs rfl
  rw [← henter] at harr
  cases e with
  | normal =>
    obtain ⟨hd, v, hr, hR⟩ := hq
    exact ⟨.returned v, w', _, hR, Steps.trans harr (.one step_end), rfl, rfl, hd, rfl, fn, hf, hr⟩
  | ret =>
    obtain ⟨hd, v, hr, hR⟩ := hq
    obtain ⟨todo, hs⟩ := harr
    exact ⟨.returned v, w', _, hR, hs, rfl, rfl, hd, rfl, fn, hf, hr⟩
  | panic chain =>
    obtain ⟨hd, hR⟩ := hq
    obtain ⟨todo, hs⟩ := harr
    exact ⟨.panicked chain, w', _, hR, hs, rfl, rfl, hd, fn, hf⟩
  | exit id => exact hq.elim
  | goto l => exact hq.elim
  | outgrown => exact ⟨.outgrown, w', b, hq, harr.resolve_left (by simp [b]), rfl, trivial⟩
end
end Go.Shoal
