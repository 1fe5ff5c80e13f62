/-
  CellPlays: the settings as they come in, the walk.
-/
import Derived.Test.YtpdpnhikcmpcdaaCellT
namespace Go.Proofs.Ytpdpnhikcmpcdaa
open Go.RowKit Go.Shoal Go.WideShapes

theorem Try.cellsCfg : Try.prog.cellsOf 30 = 8 := by kernel_rfl
theorem Try.cellsSet : Try.prog.cellsOf 68 = 1 := by kernel_rfl
theorem Try.cellsSets : Try.prog.cellsOf 28 = 1 := by kernel_rfl
theorem Try.cellsInt : Try.prog.cellsOf 3 = 1 := by kernel_rfl
theorem eight {cs : Array Value} (h : cs.size = 8) : ∃ a b c d e f g i, cs = #[a, b, c, d, e, f, g, i] := by
  obtain ⟨l⟩ := cs
  match l, h with
  | [a, b, c, d, e, f, g, i], _ => exact ⟨a, b, c, d, e, f, g, i, rfl⟩
/-- Settings that came in. -/
theorem open_config {H : Type} {enc : TypeId × Value → H} {w : World} {b0 : Nat} {v : Value} {d : DataW H} {ps : List MemPlace} (hok : Value.okWide Try.prog w .any b0 30 v)
    (h : DataW.Trod enc Try.prog w 0 (fun _ => true) true 30 v d ps) : ∃ (c : Cf) (u : Value), v = c.val u ∧ SetsIn w u c.vars ∧ (Lit.int .i64 c.n).wf = true := by
  obtain ⟨cs, rfl, hsz⟩ := agg_of_ok Try.underlying30 hok
  rw [Try.cellsCfg] at hsz
  obtain ⟨a, b, c, e, f, g, i, j, rfl⟩ := eight hsz
  obtain ⟨fuel, hf⟩ := h
  have hf : DataW.trod enc Try.prog w 0 (fun _ => true) true fuel 30 [a, b, c, e, f, g, i, j] = some (d, ps) := hf
  obtain ⟨n0, y0, t0⟩ := fields_of_trod Try.underlying30 hf 0 _ rfl rfl Try.cellsInt a rfl
  obtain ⟨n1, y1, t1⟩ := fields_of_trod Try.underlying30 hf 1 _ rfl rfl Try.cellsSets b rfl
  obtain ⟨n2, y2, t2⟩ := fields_of_trod Try.underlying30 hf 2 _ rfl rfl Try.cellsInt c rfl
  obtain ⟨n3, y3, t3⟩ := fields_of_trod Try.underlying30 hf 3 _ rfl rfl Try.cellsInt e rfl
  obtain ⟨n4, y4, t4⟩ := fields_of_trod Try.underlying30 hf 4 _ rfl rfl Try.cellsInt f rfl
  obtain ⟨n5, y5, t5⟩ := fields_of_trod Try.underlying30 hf 5 _ rfl rfl Try.cellsInt g rfl
  obtain ⟨n6, y6, t6⟩ := fields_of_trod Try.underlying30 hf 6 _ rfl rfl Try.cellsInt i rfl
  obtain ⟨n7, y7, t7⟩ := fields_of_trod Try.underlying30 hf 7 _ rfl rfl Try.cellsInt j rfl
  obtain ⟨z0, rfl, w0⟩ := int_of_trod Try.underlying3 t0
  obtain ⟨zs, hz⟩ := nums_of_trod Try.underlying28 Try.underlying68 Try.cellsSet t1
  obtain ⟨z2, rfl, w2⟩ := int_of_trod Try.underlying3 t2
  obtain ⟨z3, rfl, w3⟩ := int_of_trod Try.underlying3 t3
  obtain ⟨z4, rfl, w4⟩ := int_of_trod Try.underlying3 t4
  obtain ⟨z5, rfl, w5⟩ := int_of_trod Try.underlying3 t5
  obtain ⟨z6, rfl, w6⟩ := int_of_trod Try.underlying3 t6
  obtain ⟨z7, rfl, w7⟩ := int_of_trod Try.underlying3 t7
  exact ⟨⟨z0, zs.map Int.toNat, z2, z3, z4, z5, z6, z7⟩, b, rfl, SetsIn.of_nums hz, w0⟩

theorem cplays_walk {H : Type} {enc : TypeId × Value → H} {b0 : Nat} {d d' : DataW H} {ps ps' : List MemPlace} (W : World) (v0 : Value) (hok0 : Value.okWide Try.prog W .any b0 30 v0)
    (h0 : DataW.Trod enc Try.prog W 0 (fun _ => true) true 30 v0 d ps) (me : Int) (_ : (Lit.int .i64 me).wf = true) (v : Value) (hok : Value.okWide Try.prog W .any b0 48 v)
    (h : DataW.Trod enc Try.prog W 0 (fun _ => true) true 48 v d' ps') : Calls Try.prog 5 #[v0, .int .i64 me, v] W fun e w' => e = .returned (.bool true) ∧ Below W.heap.size W w' := by
  obtain ⟨c, u, rfl, hS, _⟩ := open_config hok0 h0
  obtain ⟨l, hz⟩ := open_rows (C := 5) (cells := ActC.cells) (fit := ActC.fit) Try.underlying48 (show Try.prog.cellsOf 57 = 5 by kernel_rfl) (by decide) actC_of hok h
  by_cases h1 : 20 < c.vars.length
  · exact plays_long c u me v l W hS hz h1
  have h1 : c.vars.length ≤ 20 := by omega
  by_cases h2 : c.good = true ∧ 0 ≤ me ∧ me < c.n
  · obtain ⟨h2, h3, h4⟩ := h2
    by_cases h5 : 60 < l.length
    · exact plays_many c u me v l W hS hz h1 h2 h3 h4 h5
    · exact plays_in c u me v l W hS hz h1 h2 h3 h4 (by omega)
  · exact plays_bad c u me v l W hS hz h1 h2
end Go.Proofs.Ytpdpnhikcmpcdaa
