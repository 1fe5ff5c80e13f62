/-
  The walks of PlacePlain and PlaceMay.
-/
import Derived.Test.YtcnjllkmliphkaaDoorPlaceC
import Derived.Deep.RegionHeld3
namespace Go.Proofs.YtcnjllkmliphkaaDoor
open Go.RowKit Go.Shoal

/-- A process of plain settings that may be, against all others. -/
theorem plain_keeps (n e p : Int) : (plainCf n e).keeps p 0 = (inB n 1 16 && inB e 1 2 && (decide (0 ≤ p) && decide (p < n))) := by
  unfold Cf.keeps
  rw [plain_good]
  cases h : inB n 1 16
  · simp
  · obtain ⟨h1, h2⟩ := inB_true h
    cases h3 : inB e 1 2
    · simp
    · have h4 : n ≤ 64 := by omega
      simp [plainCf, h4, inB]
      by_cases hp : 0 ≤ p
      · obtain ⟨k, rfl⟩ := Int.eq_ofNat_of_zero_le hp
        rw [inSet_nat _ _ (allOf_lt n), testBit_allOf, Bool.eq_iff_iff]
        simp
        omega
      · rw [Bool.eq_iff_iff]
        simp [inSet, hp]
theorem plain_may (n e p : Int) : (plainCf n e).may p (lessOf (allOf n) (oneOf p)) = (inB n 1 16 && inB e 1 2 && (decide (0 ≤ p) && decide (p < n)) && decide (1 < n)) := by
  unfold Cf.may
  rw [plain_good]
  cases h : inB n 1 16
  · simp
  · obtain ⟨h1, h2⟩ := inB_true h
    cases h3 : inB e 1 2
    · simp
    · rw [Bool.eq_iff_iff]
      have hlt := less_lt (allOf n) (oneOf p) (allOf_lt n)
      have hb : ∀ i : Nat, (lessOf (allOf n) (oneOf p)).testBit i = (decide ((i : Int) < n ∧ i < 64) && !decide ((i : Int) = p ∧ i < 64)) := fun i => by
        rw [testBit_less _ _ _ (oneOf_lt p) (allOf_lt n), testBit_allOf, testBit_oneOf]
      have hw : lessOf (lessOf (allOf n) (oneOf p)) (allOf n) = 0 := (less_zero hlt (allOf_lt n)).2 (fun i hi h => by
        rw [hb] at h
        rw [testBit_allOf]
        simp only [Bool.and_eq_true] at h
        exact h.1)
      have hp : inSet (lessOf (allOf n) (oneOf p)) p = false := by
        unfold inSet
        by_cases h0 : 0 ≤ p
        · obtain ⟨k, rfl⟩ := Int.eq_ofNat_of_zero_le h0
          rw [Int.toNat_natCast, hb]
          simp
        · simp [h0]
      have hz : lessOf (allOf n) (oneOf p) ≠ 0 ↔ ∃ i : Nat, (i : Int) < n ∧ (i : Int) ≠ p := by
        constructor
        · intro hne
          by_cases hc : ∃ i : Nat, (i : Int) < n ∧ (i : Int) ≠ p
          · exact hc
          · exfalso
            apply hne
            refine set_ext hlt (by decide) (fun i hi => ?_)
            rw [hb, Nat.zero_testBit]
            by_cases hn : (i : Int) < n
            · have : (i : Int) = p := by
                by_cases he : (i : Int) = p
                · exact he
                · exact absurd ⟨i, hn, he⟩ hc
              simp [hi, this]
            · simp [hn]
        · rintro ⟨i, hi, hne⟩ h0
          have := hb i
          rw [h0, Nat.zero_testBit] at this
          have := this.symm
          simp [hi, hne] at this
          omega
      have hz2 : (∃ i : Nat, (i : Int) < n ∧ (i : Int) ≠ p) ↔ (1 < n ∨ p ≠ 0) := by
        constructor
        · rintro ⟨i, hi, hne⟩; omega
        · intro hh
          by_cases hp0 : p = 0
          · exact ⟨1, by omega, by omega⟩
          · exact ⟨0, by omega, by omega⟩
      have hs : (plainCf n e).n = n := rfl
      rw [hs, hp]
      simp only [someB, hw, inB, Bool.and_eq_true, decide_eq_true_eq, Bool.not_false]
      rw [hz, hz2]
      have hn' : (plainCf n e).n = n := rfl
      constructor
      · rintro ⟨⟨⟨_, h4, h5⟩, h6, _⟩, _⟩
        exact ⟨⟨⟨trivial, trivial⟩, h4, by omega⟩, by omega⟩
      · rintro ⟨⟨_, h4, h5⟩, h6⟩
        exact ⟨⟨⟨⟨trivial, trivial⟩, h4, by omega⟩, by omega, trivial⟩, trivial⟩

/-- What holds of the worlds of the last statement: the settings' block, and what it leads to. -/
def Held (w0 : World) (B : Nat) (c : Cf) (v : Value) (w : World) : Prop := w.heap[B]? = some (.cells (c.cells v) 26 (0, 0)) ∧ SetsIn w v c.vars ∧ Mod (fun _ => False) w0 w
theorem Held.mod {w0 w w' : World} {B : Nat} {c : Cf} {v : Value} (h : Held w0 B c v w) (hm : Mod (fun _ => False) w w') : Held w0 B c v w' :=
  ⟨hm.blk h.1 (fun x => x), h.2.1.mod hm (fun _ _ x => x), h.2.2.trans hm⟩
/-- .. with the settings' cells written out. -/
def HeldC (w0 : World) (B : Nat) (n : Int) (l : List Nat) (wi q f m b en : Int) (v : Value) (w : World) : Prop :=
  Held w0 B ⟨n, l, wi, q, f, m, b, en⟩ v w ∧ w.cell? ⟨B, 0, none⟩ = some (.int .i64 n) ∧ w.cell? ⟨B, 1, none⟩ = some v ∧ w.cell? ⟨B, 2, none⟩ = some (.int .i64 wi) ∧ w.cell? ⟨B, 3, none⟩ = some (.int .i64 q) ∧
    w.cell? ⟨B, 4, none⟩ = some (.int .i64 f) ∧ w.cell? ⟨B, 5, none⟩ = some (.int .i64 m) ∧ w.cell? ⟨B, 6, none⟩ = some (.int .i64 b) ∧ w.cell? ⟨B, 7, none⟩ = some (.int .i64 en)
theorem Held.cells {w0 w : World} {B : Nat} {n wi q f m b en : Int} {l : List Nat} {v : Value} (h : Held w0 B ⟨n, l, wi, q, f, m, b, en⟩ v w) : HeldC w0 B n l wi q f m b en v w :=
  ⟨h, (blk_cell h.1 0).trans rfl, (blk_cell h.1 1).trans rfl, (blk_cell h.1 2).trans rfl, (blk_cell h.1 3).trans rfl, (blk_cell h.1 4).trans rfl, (blk_cell h.1 5).trans rfl, (blk_cell h.1 6).trans rfl, (blk_cell h.1 7).trans rfl⟩
theorem HeldC.alloc {w0 w : World} {B : Nat} {n wi q f m b en : Int} {l : List Nat} {v : Value} (h : HeldC w0 B n l wi q f m b en v w) (o : Obj) : HeldC w0 B n l wi q f m b en v (w.alloc o) := (h.1.mod ((Mod.refl _ _).alloc o)).cells
theorem HeldC.drew {w0 w : World} {B : Nat} {n wi q f m b en : Int} {l : List Nat} {v : Value} (h : HeldC w0 B n l wi q f m b en v w) : HeldC w0 B n l wi q f m b en v w.drew := (h.1.mod ((Mod.refl _ _).drew)).cells
theorem HeldC.mod {w0 w w' : World} {B : Nat} {n wi q f m b en : Int} {l : List Nat} {v : Value} (h : HeldC w0 B n l wi q f m b en v w) (hm : Mod (fun _ => False) w w') : HeldC w0 B n l wi q f m b en v w' := (h.1.mod hm).cells

theorem HeldC.modOf {w0 w : World} {B : Nat} {n wi q f m b en : Int} {l : List Nat} {v : Value} (h : HeldC w0 B n l wi q f m b en v w) : Mod (fun _ => False) w0 w := h.1.2.2
theorem andnot_bits (n p : Int) : bits .andNot .u64 ((allOf n : Nat) : Int) ((setOf [p] : Nat) : Int) = ((lessOf (allOf n) (oneOf p) : Nat) : Int) := by
  have h : setOf [p] = oneOf p := by simp [setOf]
  rw [h]
  exact u64_andNot_nat _ _ (allOf_lt n) (oneOf_lt p)

end Go.Proofs.YtcnjllkmliphkaaDoor
