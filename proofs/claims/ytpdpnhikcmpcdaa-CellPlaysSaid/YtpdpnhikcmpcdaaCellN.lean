/-
  conf: the settings as the reference's own; In.
-/
import Derived.Test.YtpdpnhikcmpcdaaCellM
import Derived.Deep.AppendLies
import Derived.Deep.DrawnRows
import Derived.RegionTactic
import Derived.Deep.RegionLaw
namespace Go.Proofs.Ytpdpnhikcmpcdaa
open Go.RowKit Go.Shoal
attribute [local go_sem ↓] Go.wp_at_zero Go.wp_at_succ

theorem info_u64 : (Try.prog.info? 33).map (fun i => (i.zero, i.size, i.bytes)) = some (some (.int .u64 0), 1, 8) := by kernel_rfl
theorem SetsIn.of_own {w : World} {base e : Nat} {v : Value} {l : List Nat} (h : w.ownsRow base e 1 v l.length (l.map fun (s : Nat) => Value.int .u64 (s : Int))) (hl : l.length ≤ maxLen) (hw : ∀ s ∈ l, s < 18446744073709551616) : SetsIn w v l := by
  obtain ⟨h1, h2⟩ := h
  rcases h2 with ⟨rfl, h3⟩ | ⟨g, cap, cur, rfl, hg, hh, _, _, hc, ht⟩
  · exact ⟨none, 0, by rw [h3], hl, .inl (List.eq_nil_of_length_eq_zero h3), hw⟩
  · refine ⟨some ⟨g, 0, none⟩, cap, rfl, hl, .inr ⟨g, 0, rfl, blk_lt hh, fun i hi => ?_⟩, hw⟩
    rw [blk_cell hh, Nat.zero_add]
    have hk : (cur.toList.take (l.length * 1))[i]? = cur[i]? := by rw [List.getElem?_take, if_pos (by omega), Array.getElem?_toList]
    rw [← hk, ht, List.getElem?_map, List.getD_eq_getElem?_getD, List.getElem?_eq_getElem hi]
    rfl

theorem grown_blk {w w1 : World} {g : Nat} {o : Obj} {row : Option Nat} (hg : w.grownBy w1 row) (h : w.heap[g]? = some o) (hne : ∀ k, row = some k → g ≠ k) : w1.heap[g]? = some o := blk_grown h hg hne
/-- What stands while own runs. -/
def OwnRel (w : World) (n : Int) (l : List Nat) (wi q f m b en : Int) (u v : Value) (k : Nat) (wr : World) : Prop :=
  wr.heap[w.heap.size]? = some (.cells #[.int .i64 n, u, .int .i64 wi, .int .i64 q, .int .i64 f, .int .i64 m, .int .i64 b, .int .i64 en] 30 (0, 0)) ∧
  wr.heap[w.heap.size + 1]? = some (.cells #[.int .i64 0, .slice none 0 0, .int .i64 0, .int .i64 0, .int .i64 0, .int .i64 0, .int .i64 0, .int .i64 0] 54 (0, 0)) ∧
  wr.heap[w.heap.size + 2]? = some (.cells #[.int .i64 n, v, .int .i64 wi, .int .i64 q, .int .i64 f, .int .i64 m, .int .i64 b, .int .i64 en] 54 (0, 0)) ∧
  wr.ownsRow (w.heap.size + 3) 33 1 v k ((l.take k).map fun (s : Nat) => Value.int .u64 (s : Int)) ∧ Mod (fun _ => False) w wr

theorem own_step {w w1 : World} {n : Int} {l : List Nat} {wi q f m b en : Int} {u v v' : Value} {k s : Nat}
    (h1 : Hid (w1.heap[w.heap.size]? = some (.cells #[.int .i64 n, u, .int .i64 wi, .int .i64 q, .int .i64 f, .int .i64 m, .int .i64 b, .int .i64 en] 30 (0, 0))))
    (h2 : Hid (w1.heap[w.heap.size + 1]? = some (.cells #[.int .i64 0, .slice none 0 0, .int .i64 0, .int .i64 0, .int .i64 0, .int .i64 0, .int .i64 0, .int .i64 0] 54 (0, 0))))
    (h3 : Hid (w1.heap[w.heap.size + 2]? = some (.cells #[.int .i64 n, v, .int .i64 wi, .int .i64 q, .int .i64 f, .int .i64 m, .int .i64 b, .int .i64 en] 54 (0, 0))))
    (hm : Hid (Mod (fun _ => False) w w1))
    (ho : Hid (w1.ownsRow (w.heap.size + 3) 33 1 v' (k + 1) ((l.take k).map (fun (s : Nat) => Value.int .u64 (s : Int)) ++ [.int .u64 (s : Int)])))
    (ht : Hid (l.take (k + 1) = l.take k ++ [s])) : Hid (OwnRel w n l wi q f m b en u v' (k + 1) (w1.setCell ⟨w.heap.size + 1 + 1, 1, none⟩ v')) := by
  refine ⟨blk_far h1.out (by simp; omega) _, blk_far h2.out (by simp) _, blk_set h3.out 1 _, ?_, hm.out.set (fun h => by simp at h; omega) _⟩
  have ho := ho.out
  rw [ht.out, List.map_append]
  exact Mod.own (S := fun i => i = w.heap.size + 2) (Mod.set (S := fun i => i = w.heap.size + 2) (p := ⟨w.heap.size + 1 + 1, 1, none⟩) (Mod.refl _ _) (fun _ => rfl) _) ho (fun i hi e => by omega)

set_option maxRecDepth 100000 in
set_option maxHeartbeats 8000000 in
theorem conf_any (c : Cf) (v : Value) (w : World) (h : SetsIn w v c.vars) (hs30 : c.vars.length ≤ 30) : Calls Try.prog 21 #[c.val v] w fun e w' => ∃ u, e = .returned (c.val u) ∧ RowOf w' 33 1 u c.vars.length (setCellsV c.vars) ∧ (∀ q, u.ownBlock = some q → w.heap.size ≤ q) ∧ Mod (fun _ => False) w w' := by
  obtain ⟨n, l, wi, q, f, m, b, en⟩ := c
  obtain ⟨A, cp, rfl, hl, hx, hw⟩ := h
  obtain ⟨i0, hii, hz0, hz1, hz2⟩ := info_parts info_u64
  unfold maxLen at hl
  have HX := Lib.hid hx
  have HW := Lib.hid hw
  have hs30 : l.length ≤ 30 := hs30
  clear hx hw
  unfold Cf.val Cf.cells
  show Calls Try.prog 21 #[.agg #[.int .i64 n, .slice A l.length cp, .int .i64 wi, .int .i64 q, .int .i64 f, .int .i64 m, .int .i64 b, .int .i64 en]] w fun e w' => ∃ u, e = .returned (.agg #[.int .i64 n, u, .int .i64 wi, .int .i64 q, .int .i64 f, .int .i64 m, .int .i64 b, .int .i64 en]) ∧ RowOf w' 33 1 u l.length (setCellsV l) ∧ (∀ q, u.ownBlock = some q → w.heap.size ≤ q) ∧ Mod (fun _ => False) w w'
  have H0 : Hid (∀ w3 : World, w3 = ((w.alloc (.cells #[.int .i64 n, .slice A l.length cp, .int .i64 wi, .int .i64 q, .int .i64 f, .int .i64 m, .int .i64 b, .int .i64 en] 30)).alloc (.cells #[.int .i64 0, .slice none 0 0, .int .i64 0, .int .i64 0, .int .i64 0, .int .i64 0, .int .i64 0, .int .i64 0] 54)).alloc (.cells #[.int .i64 n, .slice none 0 0, .int .i64 wi, .int .i64 q, .int .i64 f, .int .i64 m, .int .i64 b, .int .i64 en] 54) → OwnRel w n l wi q f m b en (.slice A l.length cp) (.slice none 0 0) 0 w3) := fun w3 e => by
    subst e
    exact ⟨blk_alloc (blk_alloc (blk_new _ _) _) _, by have h := blk_alloc (blk_new (w.alloc (.cells #[.int .i64 n, .slice A l.length cp, .int .i64 wi, .int .i64 q, .int .i64 f, .int .i64 m, .int .i64 b, .int .i64 en] 30)) (.cells #[.int .i64 0, .slice none 0 0, .int .i64 0, .int .i64 0, .int .i64 0, .int .i64 0, .int .i64 0, .int .i64 0] 54)) (.cells #[.int .i64 n, .slice none 0 0, .int .i64 wi, .int .i64 q, .int .i64 f, .int .i64 m, .int .i64 b, .int .i64 en] 54); simpa using h, by have h := blk_new ((w.alloc (.cells #[.int .i64 n, .slice A l.length cp, .int .i64 wi, .int .i64 q, .int .i64 f, .int .i64 m, .int .i64 b, .int .i64 en] 30)).alloc (.cells #[.int .i64 0, .slice none 0 0, .int .i64 0, .int .i64 0, .int .i64 0, .int .i64 0, .int .i64 0, .int .i64 0] 54)) (.cells #[.int .i64 n, .slice none 0 0, .int .i64 wi, .int .i64 q, .int .i64 f, .int .i64 m, .int .i64 b, .int .i64 en] 54); simpa using h, World.ownsRow_nil _ _ _ _, (((Mod.refl _ _).alloc _).alloc _).alloc _⟩
  go_enter Try.func21, Try.ntmps21
  go_wp2
  go_loopw [4] (fun i wr => ∃ (k : Nat) (v : Value), k ≤ l.length ∧ i = .int .i64 k ∧ Hid (OwnRel w n l wi q f m b en (.slice A l.length cp) v k wr))
    (fun i _ => l.length - (intOf i).toNat)
  case atStart => exact ⟨0, .slice none 0 0, Nat.zero_le _, rfl, H0.out _ rfl⟩
  case round =>
    obtain ⟨k, v, hk, rfl, hR⟩ := hrel
    obtain ⟨b1, b2, b3, ho, hm⟩ := hR.out
    have HB1 := Lib.hid b1
    have HB2 := Lib.hid b2
    have HB3 := Lib.hid b3
    have HO := Lib.hid ho
    have HM := Lib.hid hm
    have c1 := (blk_cell b1 1).trans rfl
    have d1 := (blk_cell b3 1).trans rfl
    have d2 := blk_frozen b3 1
    clear b1 b2 b3 ho hm hR
    by_cases hlt : k < l.length
    · obtain ⟨bs, os, rfl, hb, hcs⟩ := HX.out.resolve_left (fun e => by rw [e] at hlt; simp at hlt)
      have hck : wr.cell? ⟨bs, os + k, none⟩ = some (.int .u64 ((l.getD k 0 : Nat) : Int)) := by
        rw [World.cell?_of_block (HM.out.block bs hb (fun x => x))]
        exact hcs k hlt
      clear hcs
      have HT : Hid (l.take (k + 1) = l.take k ++ [l.getD k 0]) := by
        show _ = _
        rw [List.take_succ_eq_append_getElem hlt, List.getD_eq_getElem?_getD, List.getElem?_eq_getElem hlt]; rfl
      have hi : (k : Int) < l.length := by omega
      have hi0 : (0 : Int) ≤ (k : Int) := by omega
      have HNE : Hid (∀ j, v.ownBlock = some j → w.heap.size + 2 ≠ j) := fun j hj => by have := own_base HO.out j hj; omega
      have HNE1 : Hid (∀ j, v.ownBlock = some j → w.heap.size ≠ j) := fun j hj => by have := own_base HO.out j hj; omega
      have HNE2 : Hid (∀ j, v.ownBlock = some j → w.heap.size + 1 ≠ j) := fun j hj => by have := own_base HO.out j hj; omega
      have HNE3 : Hid (∀ j, v.ownBlock = some j → w.heap.size ≤ j) := fun j hj => by have := own_base HO.out j hj; omega
      have hsz := blk_lt HB3.out
      generalize l.getD k 0 = s at hck HT
      go_wp2
      go_region_law ((refine step_append_lies _ (by rfl) _ _ _ (by rfl) (w.heap.size + 3) 33 i0 (.int .u64 0) 1 8 Try.underlying52 hii hz0 hz1 hz2 rfl (by omega) v k _ (by rfl) ((HO.out.alloc _).drew) ⟨wr.heap.size, 0, none⟩ 1 1 [.int .u64 (s : Int)] (by rfl) (by rfl) (World.news_of_block (cs := #[.int .u64 (s : Int)]) (t := 33) (fr := (0, 0)) (heap_alloc_new wr _)) (by simp [Value.oneCell']) (by omega) (by unfold maxLen; omega) (by omega) (by simp; omega) (wr.heap.size + 1) (by simp) ?_; intro gg cap w1 hown1 hgrow hat hlt2; have HB3' := Lib.hid (grown_blk hgrow (blk_alloc HB3.out _) HNE.out); have HB1' := Lib.hid (grown_blk hgrow (blk_alloc HB1.out _) HNE1.out); have HB2' := Lib.hid (grown_blk hgrow (blk_alloc HB2.out _) HNE2.out); have HM' := Lib.hid (((HM.out.alloc _).drew).grown hgrow HNE3.out); have HO' := Lib.hid hown1; have e1 := (blk_cell HB3'.out 1).trans rfl; have e2 := blk_frozen HB3'.out 1; clear hown1 hgrow hat hlt2))
      all_goals go_wp2
      all_goals go_roundw
      all_goals first
        | exact ⟨k + 1, _, by omega, by go_num, own_step HB1' HB2' HB3' HM' HO' HT⟩
        | (simp [intOf]; omega)
    · obtain rfl : k = l.length := by omega
      have HSI : Hid (SetsIn wr v l) := SetsIn.of_own (by have h := HO.out; rw [List.take_length] at h; exact h) (by unfold maxLen; omega) HW.out
      have HS2 := HSI
      obtain ⟨A', c', rfl, _, _, _⟩ := HS2.out
      clear HS2
      have hi : ¬ (l.length : Int) < l.length := by omega
      have d10 := (blk_cell HB3.out 0).trans rfl
      have d11 := (blk_cell HB3.out 1).trans rfl
      have d12 := (blk_cell HB3.out 2).trans rfl
      have d13 := (blk_cell HB3.out 3).trans rfl
      have d14 := (blk_cell HB3.out 4).trans rfl
      have d15 := (blk_cell HB3.out 5).trans rfl
      have d16 := (blk_cell HB3.out 6).trans rfl
      have d17 := (blk_cell HB3.out 7).trans rfl
      have g0 := (blk_cell HB2.out 0).trans rfl
      have gf0 := blk_frozen HB2.out 0
      have g1 := (blk_cell HB2.out 1).trans rfl
      have gf1 := blk_frozen HB2.out 1
      have g2 := (blk_cell HB2.out 2).trans rfl
      have gf2 := blk_frozen HB2.out 2
      have g3 := (blk_cell HB2.out 3).trans rfl
      have gf3 := blk_frozen HB2.out 3
      have g4 := (blk_cell HB2.out 4).trans rfl
      have gf4 := blk_frozen HB2.out 4
      have g5 := (blk_cell HB2.out 5).trans rfl
      have gf5 := blk_frozen HB2.out 5
      have g6 := (blk_cell HB2.out 6).trans rfl
      have gf6 := blk_frozen HB2.out 6
      have g7 := (blk_cell HB2.out 7).trans rfl
      have gf7 := blk_frozen HB2.out 7
      go_wp2
      try simp only [Exit.inBlock, Exit.then]
      refine bodyPost_ret (v := .agg #[.int .i64 n, .slice A' l.length c', .int .i64 wi, .int .i64 q, .int .i64 f, .int .i64 m, .int .i64 b, .int .i64 en]) (by simp [results, Try.results21, go_sem, g0, g1, g2, g3, g4, g5, g6, g7]) rfl ?_
      refine ⟨.slice A' l.length c', rfl, ?_, fun q hq => by have := own_base HO.out q hq; omega, ?_⟩
      · exact RowOf.of_own (Mod.own (S := fun i => i = w.heap.size + 1) (Mod.set (S := fun i => i = w.heap.size + 1) (Mod.set (S := fun i => i = w.heap.size + 1) (Mod.set (S := fun i => i = w.heap.size + 1) (Mod.set (S := fun i => i = w.heap.size + 1) (Mod.set (S := fun i => i = w.heap.size + 1) (Mod.set (S := fun i => i = w.heap.size + 1) (Mod.set (S := fun i => i = w.heap.size + 1) (Mod.set (S := fun i => i = w.heap.size + 1) (Mod.refl _ _) (fun _ => rfl) _) (fun _ => rfl) _) (fun _ => rfl) _) (fun _ => rfl) _) (fun _ => rfl) _) (fun _ => rfl) _) (fun _ => rfl) _) (fun _ => rfl) _) (by have h := HO.out; rw [List.take_length] at h; exact h) (fun i hi e => by omega))
      · have HFF : w.heap.size + 1 < w.heap.size → False := by omega
        exact Mod.set (S := fun _ => False) (Mod.set (S := fun _ => False) (Mod.set (S := fun _ => False) (Mod.set (S := fun _ => False) (Mod.set (S := fun _ => False) (Mod.set (S := fun _ => False) (Mod.set (S := fun _ => False) (Mod.set (S := fun _ => False) (HM.out) HFF _) HFF _) HFF _) HFF _) HFF _) HFF _) HFF _) HFF _
set_option maxHeartbeats 400000 in
theorem rin_any (s : Nat) (p : Int) (w : World) (hs : s < 18446744073709551616) : Calls Try.prog 44 #[.int .u64 s, .int .i64 p] w fun e w' => e = .returned (.bool (inSet s p)) ∧ w = w' := by
  by_cases h1 : 0 ≤ p
  · by_cases h2 : p ≤ 63
    · have HE := Lib.hid (has_bits s p hs h1 (by omega))
      have h4 : IntKind.u64.wrap p = p := by rw [IntKind.wrap_u64]; omega
      go_enter Try.func44, Try.ntmps44
      go_wp2
      go_ret
      exact ⟨by rw [← HE.out]; rfl, rfl⟩
    · have HE : Hid (inSet s p = false) := by show inSet s p = false; unfold inSet; rw [decide_eq_false (show ¬ p < 64 by omega), Bool.and_false, Bool.false_and]
      go_enter Try.func44, Try.ntmps44
      go_wp2
      go_ret
      exact ⟨by rw [HE.out]; rfl, rfl⟩
  · have HE : Hid (inSet s p = false) := by show inSet s p = false; unfold inSet; rw [decide_eq_false h1, Bool.false_and, Bool.false_and]
    go_enter Try.func44, Try.ntmps44
    go_wp2
    go_ret
    exact ⟨by rw [HE.out]; rfl, rfl⟩
end Go.Proofs.Ytpdpnhikcmpcdaa
