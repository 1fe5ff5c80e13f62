/-
  The settings as they come in; the walk of PlaceMay.
-/
import Derived.Test.YtcnjllkmliphkaaDoorPlaceD
namespace Go.Proofs.YtcnjllkmliphkaaDoor
open Go.RowKit Go.Shoal Go.WideShapes

theorem Tryd.cellsCfg : Tryd.prog.cellsOf 26 = 8 := by kernel_rfl
theorem Tryd.cellsSet : Tryd.prog.cellsOf 29 = 1 := by kernel_rfl
theorem Tryd.cellsSets : Tryd.prog.cellsOf 24 = 1 := by kernel_rfl
theorem Tryd.cellsInt : Tryd.prog.cellsOf 3 = 1 := by kernel_rfl
theorem eight {cs : Array Value} (h : cs.size = 8) : ∃ a b c d e f g i, cs = #[a, b, c, d, e, f, g, i] := by
  obtain ⟨l⟩ := cs
  match l, h with
  | [a, b, c, d, e, f, g, i], _ => exact ⟨a, b, c, d, e, f, g, i, rfl⟩
/-- Settings that came in. -/
theorem open_config {H : Type} {enc : TypeId × Value → H} {w : World} {b0 : Nat} {v : Value} {d : DataW H} {ps : List MemPlace} (hok : Value.okWide Tryd.prog w .any b0 26 v)
    (h : DataW.Trod enc Tryd.prog w 0 (fun _ => true) true 26 v d ps) : ∃ (c : Cf) (u : Value), v = c.val u ∧ SetsIn w u c.vars ∧ (Lit.int .i64 c.n).wf = true := by
  obtain ⟨cs, rfl, hsz⟩ := agg_of_ok Tryd.underlying26 hok
  rw [Tryd.cellsCfg] at hsz
  obtain ⟨a, b, c, e, f, g, i, j, rfl⟩ := eight hsz
  obtain ⟨fuel, hf⟩ := h
  have hf : DataW.trod enc Tryd.prog w 0 (fun _ => true) true fuel 26 [a, b, c, e, f, g, i, j] = some (d, ps) := hf
  obtain ⟨n0, y0, t0⟩ := fields_of_trod Tryd.underlying26 hf 0 _ rfl rfl Tryd.cellsInt a rfl
  obtain ⟨n1, y1, t1⟩ := fields_of_trod Tryd.underlying26 hf 1 _ rfl rfl Tryd.cellsSets b rfl
  obtain ⟨n2, y2, t2⟩ := fields_of_trod Tryd.underlying26 hf 2 _ rfl rfl Tryd.cellsInt c rfl
  obtain ⟨n3, y3, t3⟩ := fields_of_trod Tryd.underlying26 hf 3 _ rfl rfl Tryd.cellsInt e rfl
  obtain ⟨n4, y4, t4⟩ := fields_of_trod Tryd.underlying26 hf 4 _ rfl rfl Tryd.cellsInt f rfl
  obtain ⟨n5, y5, t5⟩ := fields_of_trod Tryd.underlying26 hf 5 _ rfl rfl Tryd.cellsInt g rfl
  obtain ⟨n6, y6, t6⟩ := fields_of_trod Tryd.underlying26 hf 6 _ rfl rfl Tryd.cellsInt i rfl
  obtain ⟨n7, y7, t7⟩ := fields_of_trod Tryd.underlying26 hf 7 _ rfl rfl Tryd.cellsInt j rfl
  obtain ⟨z0, rfl, w0⟩ := int_of_trod Tryd.underlying3 t0
  obtain ⟨zs, hz⟩ := nums_of_trod Tryd.underlying24 Tryd.underlying29 Tryd.cellsSet t1
  obtain ⟨z2, rfl, w2⟩ := int_of_trod Tryd.underlying3 t2
  obtain ⟨z3, rfl, w3⟩ := int_of_trod Tryd.underlying3 t3
  obtain ⟨z4, rfl, w4⟩ := int_of_trod Tryd.underlying3 t4
  obtain ⟨z5, rfl, w5⟩ := int_of_trod Tryd.underlying3 t5
  obtain ⟨z6, rfl, w6⟩ := int_of_trod Tryd.underlying3 t6
  obtain ⟨z7, rfl, w7⟩ := int_of_trod Tryd.underlying3 t7
  exact ⟨⟨z0, zs.map Int.toNat, z2, z3, z4, z5, z6, z7⟩, b, rfl, SetsIn.of_nums hz, w0⟩

/-! The plain law. -/
theorem may_part (c : Cf) (p : Int) (s t : Nat) (hs : s < 18446744073709551616) (h : c.may p s = true) (ht : s &&& t ≠ 0) : c.may p (s &&& t) = true := by
  unfold Cf.may at *
  simp only [Bool.and_eq_true, Bool.not_eq_true'] at h ⊢
  obtain ⟨⟨⟨h1, h2⟩, h3⟩, h4⟩ := h
  refine ⟨⟨⟨h1, h2⟩, ?_⟩, ?_⟩
  · unfold someB at *
    simp only [Bool.and_eq_true, decide_eq_true_eq] at h3 ⊢
    refine ⟨ht, (less_zero (and_lt hs) (allOf_lt _)).2 (fun i hi hb => ?_)⟩
    rw [Nat.testBit_and, Bool.and_eq_true] at hb
    exact (less_zero hs (allOf_lt _)).1 h3.2 i hi hb.1
  · unfold inSet at *
    rw [Nat.testBit_and, ← Bool.and_assoc, h4, Bool.false_and]
theorem may_own (c : Cf) (p : Int) (s : Nat) : c.may p (s ||| oneOf p) = false := by
  unfold Cf.may
  cases hg : c.good
  · simp
  · have hn : 1 ≤ c.n ∧ c.n ≤ 16 := by
      unfold Cf.good at hg
      simp only [Bool.and_eq_true] at hg
      exact inB_true hg.1.1.1.1.1
    cases hp : inB p 0 (c.n - 1)
    · simp
    · obtain ⟨h1, h2⟩ := inB_true hp
      obtain ⟨k, rfl⟩ := Int.eq_ofNat_of_zero_le h1
      have h3 : inSet (s ||| oneOf k) k = true := by
        unfold inSet
        rw [Int.toNat_natCast, Nat.testBit_or, testBit_oneOf]
        simp
        omega
      rw [h3]
      simp
end Go.Proofs.YtcnjllkmliphkaaDoor
