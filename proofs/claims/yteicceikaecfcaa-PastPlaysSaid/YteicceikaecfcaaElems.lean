/-
  What came in, as the walks take it: slices of whatever elements.
-/
import Derived.Test.YteicceikaecfcaaOpen
import Derived.Deep.Slices
import Derived.Deep.Fields
namespace Go.Shoal
open Go.RowKit Go.ChangeShapes Go.WideShapes Go.ChangeAt Go.Deep

theorem list_of_all {α : Type} [Inhabited α] (R : Nat → α → Prop) : ∀ n, (∀ i, i < n → ∃ a, R i a) → ∃ l : List α, l.length = n ∧ ∀ i, i < n → R i (l.getD i default)
  | 0, _ => ⟨[], rfl, fun i hi => absurd hi (Nat.not_lt_zero i)⟩
  | n + 1, h => by
    obtain ⟨l, hl, hr⟩ := list_of_all R n (fun i hi => h i (Nat.lt_succ_of_lt hi))
    obtain ⟨a, ha⟩ := h n (Nat.lt_succ_self n)
    refine ⟨l ++ [a], by simp [hl], fun i hi => ?_⟩
    rw [List.getD_eq_getElem?_getD]
    by_cases hin : i < n
    · rw [List.getElem?_append_left (by omega)]
      have := hr i hin
      rw [List.getD_eq_getElem?_getD] at this
      exact this
    · obtain rfl : i = n := by omega
      rw [List.getElem?_append_right (by omega), hl, Nat.sub_self]
      exact ha
/-- A slice value that reads as a list: C cells an element, laid as 'cells' says; each element is fit. -/
def ElemsIn {α : Type} [Inhabited α] (C : Nat) (cells : α → List Value) (fit : α → Prop) (w : World) (v : Value) (xs : List α) : Prop :=
  ∃ A c, v = .slice A xs.length c ∧ xs.length ≤ maxLen ∧ (∀ i, i < xs.length → fit (xs.getD i default)) ∧
    (xs = [] ∨ ∃ b o, A = some ⟨b, o, none⟩ ∧ b < w.heap.size ∧ ∀ i j u, i < xs.length → (cells (xs.getD i default))[j]? = some u → w.cell? ⟨b, o + i * C + j, none⟩ = some u)
section
variable {H : Type} {enc : TypeId × Value → H} {P : Program} {w : World} {base : Nat} {spare : Nat → Bool} {held : Bool}
theorem rows_of_trod {α : Type} [Inhabited α] {C : Nat} {cells : α → List Value} {fit : α → Prop} {t e : TypeId} {fuel : Nat} {v : Value} {x : DataW H × List MemPlace} (ht : P.underlying t = some (.slice e)) (hC : P.cellsOf e = C) (hpos : 0 < C)
    (hr : ∀ n cs y, cs.length = C → DataW.trod enc P w base spare held n e cs = some y → ∃ a, cs = cells a ∧ fit a) (h : DataW.trod enc P w base spare held fuel t [v] = some x) : ∃ xs, ElemsIn C cells fit w v xs := by
  rcases open_slice ht h with ⟨hcs, _⟩ | ⟨a, len, cap, m, n, D, Pl, hcs, hb, hl, hm, hmm, _, hi⟩
  · obtain rfl : v = .slice none 0 0 := by simpa using hcs
    exact ⟨[], none, 0, rfl, by simp, fun i hi => absurd hi (by simp), .inl rfl⟩
  · obtain rfl : v = .slice (some a) len cap := by simpa using hcs
    have hlm : len ≤ m := by rw [hmm]; split <;> omega
    obtain ⟨xs, hx, hR⟩ := list_of_all (fun i (y : α) => fit y ∧ ∀ j u, (cells y)[j]? = some u → w.cell? ((a.add (i * C)).add j) = some u) len (fun i hil => by
      obtain ⟨cs', hc, ht'⟩ := hi i (by omega)
      rw [hC] at hc
      obtain ⟨_, hcl, hat⟩ := World.cells?_some hc
      obtain ⟨y, rfl, hf⟩ := hr _ _ _ hcl ht'
      exact ⟨y, hf, fun j u hu => (hat j (by rw [← hcl]; exact (List.getElem?_eq_some_iff.1 hu).1)).trans hu⟩)
    refine ⟨xs, some a, cap, by rw [hx], by rw [hx]; omega, fun i hi => (hR i (by omega)).1, ?_⟩
    by_cases h0 : len = 0
    · left; exact List.eq_nil_of_length_eq_zero (by omega)
    · right
      obtain ⟨cs', hc, ht'⟩ := hi 0 (by omega)
      rw [hC] at hc
      obtain ⟨_, hcl, hat⟩ := World.cells?_some hc
      have h1 := (hat 0 hpos).trans (List.getElem?_eq_getElem (by omega : 0 < cs'.length))
      obtain ⟨b, off, spot⟩ := a
      have hspot : spot = none := by simpa [Addr.add] using World.cell?_spot h1
      subst hspot
      refine ⟨b, off, rfl, (by have h2 := World.block_lt_of_cell? w _ h1; rw [Addr.add_lit, Addr.add_lit] at h2; exact h2), fun i j u hi hu => ?_⟩
      have := (hR i (by omega)).2 j u hu
      rw [Addr.add_lit, Addr.add_lit] at this
      exact this
theorem open_rows {α : Type} [Inhabited α] {C : Nat} {cells : α → List Value} {fit : α → Prop} {r : Reach} {b0 : Nat} {t e : TypeId} {v : Value} {d : DataW H} {ps : List MemPlace} (ht : P.underlying t = some (.slice e)) (hC : P.cellsOf e = C) (hpos : 0 < C)
    (hr : ∀ n cs y, cs.length = C → DataW.trod enc P w base spare held n e cs = some y → ∃ a, cs = cells a ∧ fit a) (hok : Value.okWide P w r b0 t v) (h : DataW.Trod enc P w base spare held t v d ps) : ∃ xs, ElemsIn C cells fit w v xs := by
  obtain ⟨a, len, cap, rfl⟩ := okWide_slice ht hok
  obtain ⟨fuel, hf⟩ := h
  exact rows_of_trod ht hC hpos hr (fuel := fuel) (x := (d, ps)) (by simpa [Value.cells] using hf)
/-- One field of a struct, of one cell. -/
theorem field_of_trod {t : TypeId} {fs : Array Field} {cs : List Value} {fuel : Nat} {x : DataW H × List MemPlace} (ht : P.underlying t = some (.struct fs)) (h : DataW.trod enc P w base spare held fuel t cs = some x)
    (i : Nat) (f : Field) (hf : fs[i]? = some f) (ho : f.offset = i) (hc : P.cellsOf f.type = 1) (hi : i < cs.length) : ∃ n y, DataW.trod enc P w base spare held n f.type [cs[i]] = some y :=
  fields_of_trod ht h i f hf ho hc _ (List.getElem?_eq_getElem hi)
end
/-- The cells of an element, in a world that has kept what came in. -/
theorem ElemsIn.cell {α : Type} [Inhabited α] {C : Nat} {cells : α → List Value} {w w' : World} {A : Option Addr} {xs : List α}
    (hz : xs = [] ∨ ∃ b o, A = some ⟨b, o, none⟩ ∧ b < w.heap.size ∧ ∀ i j u, i < xs.length → (cells (xs.getD i default))[j]? = some u → w.cell? ⟨b, o + i * C + j, none⟩ = some u)
    (hB : Below w.heap.size w w') (i : Nat) (hi : i < xs.length) : ∃ b o, A = some ⟨b, o, none⟩ ∧ b < w.heap.size ∧ ∀ j u, (cells (xs.getD i default))[j]? = some u → w'.cell? ⟨b, o + i * C + j, none⟩ = some u := by
  rcases hz with rfl | ⟨b, o, rfl, hb, hc⟩
  · simp at hi
  · exact ⟨b, o, rfl, hb, fun j u hu => (hB.cell (p := ⟨b, o + i * C + j, none⟩) hb).trans (hc i j u hi hu)⟩
end Go.Shoal
