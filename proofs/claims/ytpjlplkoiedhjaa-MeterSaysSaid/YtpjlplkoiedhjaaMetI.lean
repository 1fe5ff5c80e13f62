/-
  What Add keeps.
-/
import Derived.Test.YtpjlplkoiedhjaaMetH
namespace Go.Proofs.Ytpjlplkoiedhjaa
open Go.RowKit Go.Shoal

theorem ins_len (l : List Nat) (k : Nat) : (ins l k).length = l.length + 1 := by
  have := rank_le l k
  unfold ins
  rw [List.length_append, List.length_cons, List.length_take, List.length_drop]
  omega
theorem take_below {l : List Nat} (h : Rises l) {k a : Nat} (ha : a ∈ l.take (rank l k)) : a < k := by
  obtain ⟨i, hi, he⟩ := List.getElem_of_mem ha
  have hi' : i < rank l k := by rw [List.length_take] at hi; omega
  have hl : l[i]? = some a := by
    rw [List.getElem_take] at he
    rw [← he]
    exact List.getElem?_eq_getElem _
  exact (rank_iff l k h i a hl).2 hi'
theorem drop_above {l : List Nat} (h : Rises l) {k b : Nat} (hb : b ∈ l.drop (rank l k)) : k ≤ b := by
  obtain ⟨i, hi, he⟩ := List.getElem_of_mem hb
  have hl : l[rank l k + i]? = some b := by
    rw [List.getElem_drop] at he
    rw [← he]
    exact List.getElem?_eq_getElem _
  have := rank_iff l k h _ b hl
  omega
theorem ins_rises {l : List Nat} (h : Rises l) (k : Nat) : Rises (ins l k) := by
  unfold Rises ins
  rw [List.pairwise_append]
  refine ⟨List.Pairwise.sublist (List.take_sublist _ _) h, List.pairwise_cons.2 ⟨fun b hb => drop_above h hb, List.Pairwise.sublist (List.drop_sublist _ _) h⟩, fun a ha b hb => ?_⟩
  have h1 := take_below h ha
  rcases List.mem_cons.1 hb with rfl | hb
  · omega
  · have := drop_above h hb
    omega
theorem AddTo.ok {m m' : Mt} {x : Nat} (h : AddTo m x m') (ho : m.Ok) (hx : x < B64) : m'.Ok := by
  obtain ⟨hk, hc⟩ := h
  have hr : Rises m'.ks := by rw [hk]; exact ins_rises ho.rises _
  have hl : m'.ks.length = m.ks.length + 1 := by rw [hk]; exact ins_len _ _
  have h1 := ho.hn
  have h2 := ho.hf
  have h3 := ho.hs
  have h4 := ho.hsm
  have h5 := ho.hle
  have h6 := ho.hmo
  rcases hc with ⟨_, e1, e2, e3, e4, e5, e6⟩ | ⟨_, e1, e2, e3, e4, hc⟩
  · exact ⟨hr, by omega, by omega, by omega, by omega, by omega, by omega⟩
  · have g1 : m'.le < B64 := by
      rw [e3]
      exact pickF_lt _ _ _ (by decide) (fun y hy => by simp at hy; rcases hy with rfl | rfl <;> assumption)
    have g2 : m'.mo < B64 := by
      rw [e4]
      exact pickF_lt _ _ _ (by decide) (fun y hy => by simp at hy; rcases hy with rfl | rfl <;> assumption)
    rcases hc with ⟨_, e5, e6⟩ | ⟨_, e5, ⟨_, e6⟩ | ⟨_, d, q, _, _, e6⟩⟩
    · exact ⟨hr, by omega, by omega, e2.1, by omega, g1, g2⟩
    · exact ⟨hr, by omega, by omega, e2.1, by omega, g1, g2⟩
    · exact ⟨hr, by omega, by omega, e2.1, e6.1, g1, g2⟩
end Go.Proofs.Ytpjlplkoiedhjaa
