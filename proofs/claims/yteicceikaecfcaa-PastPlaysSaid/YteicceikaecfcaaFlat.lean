/-
  Rows of elements of C cells each, as lists.
-/
import Derived.Test.YteicceikaecfcaaRowOf
namespace Go.Shoal
open Go Go.RowKit
section
variable {α : Type} {C : Nat} {f : α → List Value}
theorem flat_len (hf : ∀ a, (f a).length = C) (l : List α) : (l.flatMap f).length = l.length * C := by
  induction l with
  | nil => simp
  | cons a r ih => rw [List.flatMap_cons, List.length_append, hf, ih, List.length_cons, Nat.add_mul]; omega
theorem flat_at (hf : ∀ a, (f a).length = C) : ∀ (l : List α) (i j : Nat) (a : α), l[i]? = some a → j < C → (l.flatMap f)[i * C + j]? = (f a)[j]?
  | [], i, _, _, h, _ => by simp at h
  | b :: r, 0, j, a, h, hj => by
    obtain rfl : b = a := by simpa using h
    rw [List.flatMap_cons, Nat.zero_mul, Nat.zero_add, List.getElem?_append_left (by rw [hf]; exact hj)]
  | b :: r, i + 1, j, a, h, hj => by
    rw [List.flatMap_cons, List.getElem?_append_right (by rw [hf, Nat.add_mul]; omega), hf, show (i + 1) * C + j - C = i * C + j by rw [Nat.add_mul]; omega]
    exact flat_at hf r i j a (by simpa using h) hj
theorem flat_put (hf : ∀ a, (f a).length = C) (hC : 0 < C) (l : List α) (i : Nat) (b : α) (hi : i < l.length) : putAll (l.flatMap f).toArray (i * C) (f b) = ((l.set i b).flatMap f).toArray := by
  apply Array.ext_getElem?
  intro q
  have h1 := flat_len hf l
  have hmul : i * C + C ≤ l.length * C := by
    have : (i + 1) * C ≤ l.length * C := Nat.mul_le_mul_right _ hi
    rw [Nat.add_mul] at this; omega
  obtain ⟨k, j, hj, rfl⟩ : ∃ k j, j < C ∧ q = k * C + j := ⟨q / C, q % C, Nat.mod_lt _ hC, by rw [Nat.mul_comm]; exact (Nat.div_add_mod q C).symm⟩
  have e2 : ((l.set i b).flatMap f).toArray[k * C + j]? = ((l.set i b).flatMap f)[k * C + j]? := by simp
  have e3 : (l.flatMap f).toArray[k * C + j]? = (l.flatMap f)[k * C + j]? := by simp
  rw [e2]
  by_cases hk : k = i
  · subst hk
    rw [putAll_in _ _ _ _ (by rw [hf]; exact hj) (by rw [hf]; simp only [List.size_toArray, h1]; exact hmul), flat_at hf _ k j b (by simp [hi]) hj]
  · have ho : k * C + j < i * C ∨ i * C + (f b).length ≤ k * C + j := by
      rw [hf]
      rcases Nat.lt_or_gt_of_ne hk with h | h
      · left
        have : (k + 1) * C ≤ i * C := Nat.mul_le_mul_right _ h
        rw [Nat.add_mul] at this; omega
      · right
        have : (i + 1) * C ≤ k * C := Nat.mul_le_mul_right _ h
        rw [Nat.add_mul] at this; omega
    rw [putAll_out _ _ _ _ ho, e3]
    by_cases hkl : k < l.length
    · have e1 : l[k]? = some l[k] := List.getElem?_eq_getElem hkl
      rw [flat_at hf l k j _ e1 hj, flat_at hf (l.set i b) k j l[k] (by rw [List.getElem?_set_ne (fun e => hk e.symm)]; exact e1) hj]
    · have h2 := flat_len hf (l.set i b)
      rw [List.length_set] at h2
      have : l.length * C ≤ k * C := Nat.mul_le_mul_right _ (by omega)
      rw [List.getElem?_eq_none (by omega), List.getElem?_eq_none (by omega)]
/-- A list of cells that is one pattern again and again. -/
theorem flat_same (hf : ∀ a, (f a).length = C) (hC : 0 < C) (a : α) (n : Nat) (cur : List Value) (hl : cur.length = n * C) (h : ∀ k j, k < n → j < C → cur[k * C + j]? = (f a)[j]?) : cur = (List.replicate n a).flatMap f := by
  have h1 := flat_len hf (List.replicate n a)
  rw [List.length_replicate] at h1
  apply List.ext_getElem?
  intro q
  obtain ⟨k, j, hj, rfl⟩ : ∃ k j, j < C ∧ q = k * C + j := ⟨q / C, q % C, Nat.mod_lt _ hC, by rw [Nat.mul_comm]; exact (Nat.div_add_mod q C).symm⟩
  by_cases hk : k < n
  · rw [h k j hk hj, flat_at hf _ k j a (by rw [List.getElem?_replicate, if_pos hk]) hj]
  · have : n * C ≤ k * C := Nat.mul_le_mul_right _ (by omega)
    rw [List.getElem?_eq_none (by omega), List.getElem?_eq_none (by omega)]
/-- The cells of one element, in a block. -/
theorem flat_cell {w : World} {g o t : Nat} {cur : Array Value} (hf : ∀ a, (f a).length = C) {l : List α} (hg : w.heap[g]? = some (.cells cur t (0, 0))) (hc : ∀ j, j < l.length * C → cur[o + j]? = (l.flatMap f)[j]?) {i : Nat} {a : α} (ha : l[i]? = some a) (j : Nat) (hj : j < C) :
    w.cell? ⟨g, o + i * C + j, none⟩ = (f a)[j]? := by
  have hi := (List.getElem?_eq_some_iff.1 ha).1
  have hm : (i + 1) * C ≤ l.length * C := Nat.mul_le_mul_right _ hi
  rw [Nat.add_mul] at hm
  rw [blk_cell hg, Nat.add_assoc, hc _ (by omega), flat_at hf l i j a ha hj]
/-- One element of a row is stored. -/
theorem RowOf.put {w w' : World} {e : TypeId} {b o cap n : Nat} {cur : Array Value} (hf : ∀ a, (f a).length = C) (hC : 0 < C) {l : List α} (h : RowOf w e C (.slice (some ⟨b, o, none⟩) n cap) n (l.flatMap f)) (hl : l.length = n) {k : Nat} (hk : k < n) (y : α)
    (hc : w.heap[b]? = some (.cells cur e (0, 0))) (hw : w'.heap[b]? = some (.cells (putAll cur (o + k * C) (f y)) e (0, 0))) : RowOf w' e C (.slice (some ⟨b, o, none⟩) n cap) n ((l.set k y).flatMap f) := by
  obtain ⟨h1, h2⟩ := h
  have hlen := flat_len hf (l.set k y)
  rw [List.length_set, hl] at hlen
  have hm : k * C + C ≤ n * C := by
    have : (k + 1) * C ≤ n * C := Nat.mul_le_mul_right _ hk
    rw [Nat.add_mul] at this; omega
  refine ⟨hlen, .inr ?_⟩
  rcases h2 with ⟨h, _⟩ | ⟨b', o', cap', cur', he, hh, hcap, hmx, hs, hx⟩
  · cases h
  · cases he
    rw [hc] at hh
    cases hh
    have hcn : n * C ≤ cap * C := Nat.mul_le_mul_right _ hcap
    refine ⟨b, o, cap, _, rfl, hw, hcap, hmx, by rw [size_putAll]; exact hs, fun j hj => ?_⟩
    have e2 : ((l.set k y).flatMap f)[j]? = (putAll (l.flatMap f).toArray (k * C) (f y))[j]? := by
      rw [flat_put hf hC l k y (by omega)]
      simp
    rw [e2]
    by_cases hin : k * C ≤ j ∧ j < k * C + C
    · obtain ⟨q, rfl⟩ : ∃ q, j = k * C + q := ⟨j - k * C, by omega⟩
      rw [← Nat.add_assoc, putAll_in _ _ _ _ (by rw [hf]; omega) (by rw [hf]; omega), putAll_in _ _ _ _ (by rw [hf]; omega) (by rw [hf, List.size_toArray, h1]; omega)]
    · rw [putAll_out _ _ _ _ (by rw [hf]; omega), putAll_out _ _ _ _ (by rw [hf]; omega), hx j hj]
      simp
end
theorem RowOf.elem {α : Type} {w : World} {e size : Nat} {v : Value} {l : List α} {cells : α → List Value} (hc : ∀ a, (cells a).length = size) (h : RowOf w e size v l.length (l.flatMap cells)) {k : Nat} {a : α} (hk : l[k]? = some a) :
    ∃ b o cap, v = .slice (some ⟨b, o, none⟩) l.length cap ∧ b < w.heap.size ∧ ∀ j u, (cells a)[j]? = some u → w.cell? ⟨b, o + k * size + j, none⟩ = some u := by
  have hlt := (List.getElem?_eq_some_iff.1 hk).1
  obtain ⟨b, o, cap, cur, rfl, hh, hcap, hx⟩ := h.at (by omega)
  refine ⟨b, o, cap, rfl, blk_lt hh, fun j u hu => ?_⟩
  have hj : j < size := by rw [← hc a]; exact (List.getElem?_eq_some_iff.1 hu).1
  have hks : k * size + j < l.length * size := by
    have := Nat.mul_le_mul_right size (show k + 1 ≤ l.length by omega)
    rw [Nat.add_mul, Nat.one_mul] at this
    omega
  rw [Nat.add_assoc, blk_cell hh, hx _ hks, flat_at hc l k j a hk hj]
  exact hu
end Go.Shoal
