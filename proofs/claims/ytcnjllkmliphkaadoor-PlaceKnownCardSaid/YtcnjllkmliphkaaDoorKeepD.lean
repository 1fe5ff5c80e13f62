/-
  The reference's Good: the loop.
-/
import Derived.Test.YtcnjllkmliphkaaDoorKeepC
namespace Go.Proofs.YtcnjllkmliphkaaDoor
open Go.RowKit Go.Shoal

set_option maxRecDepth 100000 in
set_option maxHeartbeats 16000000 in
theorem rgood_loop (n : Int) (l : List Nat) (wi q f m b en : Int) (A : Option Addr) (cp : Nat) (w : World) (hl : l.length ≤ 2 ^ 63 - 1) (HX : Hid (l = [] ∨ ∃ b o, A = some ⟨b, o, none⟩ ∧ b < w.heap.size ∧ ∀ i, i < l.length → w.cell? ⟨b, o + i, none⟩ = some (.int .u64 ((l.getD i 0 : Nat) : Int)))) (HW : Hid (∀ s ∈ l, s < 18446744073709551616)) (hg : ¬ (n < 1 ∨ 16 < n ∨ 16 < (l.length : Int) ∨ wi < 1 ∨ 16 < wi ∨ q < 2 ∨ 32 < q ∨ f < 1 ∨ m < f ∨ 1000 < m ∨ b < 0 ∨ 256 < b)) :
    Calls Tryd.prog 14 #[.agg #[.int .i64 n, .slice A l.length cp, .int .i64 wi, .int .i64 q, .int .i64 f, .int .i64 m, .int .i64 b, .int .i64 en]] w fun e w' => e = .returned (.bool (Cf.good ⟨n, l, wi, q, f, m, b, en⟩)) ∧ Mod (fun _ => False) w w' := by
  have HB : Hid ((w.alloc (.cells #[.int .i64 n, .slice A l.length cp, .int .i64 wi, .int .i64 q, .int .i64 f, .int .i64 m, .int .i64 b, .int .i64 en] 37)).heap[w.heap.size]? = some (.cells #[.int .i64 n, .slice A l.length cp, .int .i64 wi, .int .i64 q, .int .i64 f, .int .i64 m, .int .i64 b, .int .i64 en] 37 (0, 0))) := blk_new _ _
  have HM0 : Hid (Mod (fun _ => False) w (w.alloc (.cells #[.int .i64 n, .slice A l.length cp, .int .i64 wi, .int .i64 q, .int .i64 f, .int .i64 m, .int .i64 b, .int .i64 en] 37))) := (Mod.refl _ _).alloc _
  have g0 : ¬ (n < 1) := by omega
  have g1 : ¬ (16 < n) := by omega
  have g2 : ¬ (16 < (l.length : Int)) := by omega
  have g3 : ¬ (wi < 1) := by omega
  have g4 : ¬ (16 < wi) := by omega
  have g5 : ¬ (q < 2) := by omega
  have g6 : ¬ (32 < q) := by omega
  have g7 : ¬ (f < 1) := by omega
  have g8 : ¬ (m < f) := by omega
  have g9 : ¬ (1000 < m) := by omega
  have g10 : ¬ (b < 0) := by omega
  have g11 : ¬ (256 < b) := by omega
  clear hg
  have hE : Hid (Cf.good ⟨n, l, wi, q, f, m, b, en⟩ = (!(l.any fun s => !someB s n) && inB en 1 2)) := by
    show _ = _
    have k0 : inB n 1 16 = true := (inB_iff _ _ _).2 (by omega)
    have k1 : decide (l.length ≤ 16) = true := decide_eq_true (by omega)
    have k2 : inB wi 1 16 = true := (inB_iff _ _ _).2 (by omega)
    have k3 : inB q 2 32 = true := (inB_iff _ _ _).2 (by omega)
    have k4 : inB f 1 m = true := (inB_iff _ _ _).2 (by omega)
    have k5 : decide (m ≤ 1000) = true := decide_eq_true (by omega)
    have k6 : inB b 0 256 = true := (inB_iff _ _ _).2 (by omega)
    simp only [Cf.good, k0, k1, k2, k3, k4, k5, k6, Bool.and_true, Bool.true_and]
  by_cases e3 : en ≠ 1 ∧ en ≠ 2
  · have hE2 : Hid (Cf.good ⟨n, l, wi, q, f, m, b, en⟩ = false) := by show _ = _; rw [hE.out, show inB en 1 2 = false by exact Bool.eq_false_iff.2 (fun h => by rw [inB_iff] at h; omega), Bool.and_false]
    have e1 : (en != 1) = true := by simp; omega
    have e2 : (en != 2) = true := by simp; omega
    clear HX HW e3
    go_enter Tryd.func14, Tryd.ntmps14
    go_wp2
    all_goals go_ret
    all_goals exact ⟨by rw [hE2.out]; rfl, (Mod.refl _ _).alloc _⟩
  have hE2 : Hid (Cf.good ⟨n, l, wi, q, f, m, b, en⟩ = !(l.any fun s => !someB s n)) := by show _ = _; rw [hE.out, show inB en 1 2 = true by rw [inB_iff]; omega, Bool.and_true]
  clear hE
  by_cases e4 : en = 1
  · have e1 : (en != 1) = false := by simp [e4]
    clear e4
    clear e3
    go_enter Tryd.func14, Tryd.ntmps14
    go_wp2
    clear g0 g1 g2 g3 g4 g5 g6 g7 g8 g9 g10 g11 e1
    go_loopw [3] (fun i wr => ∃ k : Nat, k ≤ l.length ∧ i = .int .i64 k ∧ Hid ((l.take k).any (fun s => !someB s n) = false) ∧ Hid (Mod (fun _ => False) w wr) ∧ Hid (wr.heap[w.heap.size]? = some (.cells #[.int .i64 n, .slice A l.length cp, .int .i64 wi, .int .i64 q, .int .i64 f, .int .i64 m, .int .i64 b, .int .i64 en] 37 (0, 0)))) (fun i _ => l.length - (intOf i).toNat)
    case atStart => exact ⟨0, Nat.zero_le _, rfl, rfl, HM0.out, HB.out⟩
    case round =>
      obtain ⟨k, hk, rfl, hA, hM, hBw⟩ := hrel
      have c0 := (blk_cell hBw.out 0).trans rfl
      have c1 := (blk_cell hBw.out 1).trans rfl
      by_cases hlt : k < l.length
      · obtain ⟨bs, os, rfl, hb, hcs⟩ := HX.out.resolve_left (fun e => by rw [e] at hlt; simp at hlt)
        have hck : wr.cell? ⟨bs, os + k, none⟩ = some (.int .u64 ((l.getD k 0 : Nat) : Int)) := by
          rw [World.cell?_of_block (hM.out.block bs hb (fun x => x))]
          exact hcs k hlt
        clear hcs
        have hg : l.getD k 0 = l[k] := by rw [List.getD_eq_getElem?_getD, List.getElem?_eq_getElem hlt]; rfl
        have HT : Hid (l.take (k + 1) = l.take k ++ [l.getD k 0]) := by
          show _ = _
          rw [List.take_succ_eq_append_getElem hlt, hg]
        have HS : Hid (l.getD k 0 ∈ l) := by rw [hg]; exact List.getElem_mem hlt
        have hi : (k : Int) < l.length := by omega
        have hi0 : (0 : Int) ≤ (k : Int) := by omega
        clear hg
        generalize l.getD k 0 = s at hck HT HS
        have hs : s < 18446744073709551616 := HW.out s HS.out
        have HL := less_test s (allOf n) hs (allOf_lt n)
        have HN := Lib.hid (rall_any n)
        have HSB : Hid (someB s n = (decide (s ≠ 0) && decide (lessOf s (allOf n) = 0))) := rfl
        by_cases h0 : s = 0
        · have HY : Hid (l.any (fun s => !someB s n) = true) := List.any_eq_true.2 ⟨s, HS.out, by rw [HSB.out, h0]; rfl⟩
          have h1 : ((s : Int) == 0) = true := by simp [h0]
          clear h0 HL hs HSB HN HT HS hA
          go_wp2
          go_quiet (fail)
          go_wp2
          go_ret
          exact ⟨by rw [hE2.out, HY.out]; rfl, hM.out.drewN _⟩
        · have h1 : ((s : Int) == 0) = false := by simp; omega
          have h2 : decide (s ≠ 0) = true := decide_eq_true h0
          generalize allOf n = a at HL HN HSB
          cases hz : decide (lessOf s a = 0)
          · rw [hz] at HL
            have HY : Hid (l.any (fun s => !someB s n) = true) := List.any_eq_true.2 ⟨s, HS.out, by rw [HSB.out, hz, Bool.and_false]; rfl⟩
            clear h0 hs HSB HT HS hA hz h2
            go_wp2
            go_quiet (first | (go_at_call 25; exact quiet_left (HN.out _)))
            go_wp2
            go_ret
            exact ⟨by rw [hE2.out, HY.out]; rfl, hM.out.drewN _⟩
          · rw [hz] at HL
            have HY : Hid ((l.take (k + 1)).any (fun s => !someB s n) = false) := by show _ = _; rw [HT.out, List.any_append, hA.out]; simp [HSB.out, hz, h2]
            clear h0 hs HSB HT HS hA hz h2
            go_wp2
            go_quiet (first | (go_at_call 25; exact quiet_left (HN.out _)))
            go_wp2
            go_roundw
            case rel => exact ⟨k + 1, by omega, by go_num, HY, hM.out.drewN _, hBw.out⟩
            case measure => simp [intOf]; omega
      · have hke : Hid (k = l.length) := by show _ = _; omega
        have hi : ¬ (k : Int) < l.length := by omega
        go_wp2
        go_ret
        have h := hA.out
        rw [hke.out, List.take_length] at h
        exact ⟨by rw [hE2.out, h]; rfl, hM.out⟩
  · have e1 : (en != 1) = true := by simp; omega
    have e2 : (en != 2) = false := by simp; omega
    clear e4
    clear e3
    go_enter Tryd.func14, Tryd.ntmps14
    go_wp2
    clear g0 g1 g2 g3 g4 g5 g6 g7 g8 g9 g10 g11 e1 e2
    go_loopw [3] (fun i wr => ∃ k : Nat, k ≤ l.length ∧ i = .int .i64 k ∧ Hid ((l.take k).any (fun s => !someB s n) = false) ∧ Hid (Mod (fun _ => False) w wr) ∧ Hid (wr.heap[w.heap.size]? = some (.cells #[.int .i64 n, .slice A l.length cp, .int .i64 wi, .int .i64 q, .int .i64 f, .int .i64 m, .int .i64 b, .int .i64 en] 37 (0, 0)))) (fun i _ => l.length - (intOf i).toNat)
    case atStart => exact ⟨0, Nat.zero_le _, rfl, rfl, HM0.out, HB.out⟩
    case round =>
      obtain ⟨k, hk, rfl, hA, hM, hBw⟩ := hrel
      have c0 := (blk_cell hBw.out 0).trans rfl
      have c1 := (blk_cell hBw.out 1).trans rfl
      by_cases hlt : k < l.length
      · obtain ⟨bs, os, rfl, hb, hcs⟩ := HX.out.resolve_left (fun e => by rw [e] at hlt; simp at hlt)
        have hck : wr.cell? ⟨bs, os + k, none⟩ = some (.int .u64 ((l.getD k 0 : Nat) : Int)) := by
          rw [World.cell?_of_block (hM.out.block bs hb (fun x => x))]
          exact hcs k hlt
        clear hcs
        have hg : l.getD k 0 = l[k] := by rw [List.getD_eq_getElem?_getD, List.getElem?_eq_getElem hlt]; rfl
        have HT : Hid (l.take (k + 1) = l.take k ++ [l.getD k 0]) := by
          show _ = _
          rw [List.take_succ_eq_append_getElem hlt, hg]
        have HS : Hid (l.getD k 0 ∈ l) := by rw [hg]; exact List.getElem_mem hlt
        have hi : (k : Int) < l.length := by omega
        have hi0 : (0 : Int) ≤ (k : Int) := by omega
        clear hg
        generalize l.getD k 0 = s at hck HT HS
        have hs : s < 18446744073709551616 := HW.out s HS.out
        have HL := less_test s (allOf n) hs (allOf_lt n)
        have HN := Lib.hid (rall_any n)
        have HSB : Hid (someB s n = (decide (s ≠ 0) && decide (lessOf s (allOf n) = 0))) := rfl
        by_cases h0 : s = 0
        · have HY : Hid (l.any (fun s => !someB s n) = true) := List.any_eq_true.2 ⟨s, HS.out, by rw [HSB.out, h0]; rfl⟩
          have h1 : ((s : Int) == 0) = true := by simp [h0]
          clear h0 HL hs HSB HN HT HS hA
          go_wp2
          go_quiet (fail)
          go_wp2
          go_ret
          exact ⟨by rw [hE2.out, HY.out]; rfl, hM.out.drewN _⟩
        · have h1 : ((s : Int) == 0) = false := by simp; omega
          have h2 : decide (s ≠ 0) = true := decide_eq_true h0
          generalize allOf n = a at HL HN HSB
          cases hz : decide (lessOf s a = 0)
          · rw [hz] at HL
            have HY : Hid (l.any (fun s => !someB s n) = true) := List.any_eq_true.2 ⟨s, HS.out, by rw [HSB.out, hz, Bool.and_false]; rfl⟩
            clear h0 hs HSB HT HS hA hz h2
            go_wp2
            go_quiet (first | (go_at_call 25; exact quiet_left (HN.out _)))
            go_wp2
            go_ret
            exact ⟨by rw [hE2.out, HY.out]; rfl, hM.out.drewN _⟩
          · rw [hz] at HL
            have HY : Hid ((l.take (k + 1)).any (fun s => !someB s n) = false) := by show _ = _; rw [HT.out, List.any_append, hA.out]; simp [HSB.out, hz, h2]
            clear h0 hs HSB HT HS hA hz h2
            go_wp2
            go_quiet (first | (go_at_call 25; exact quiet_left (HN.out _)))
            go_wp2
            go_roundw
            case rel => exact ⟨k + 1, by omega, by go_num, HY, hM.out.drewN _, hBw.out⟩
            case measure => simp [intOf]; omega
      · have hke : Hid (k = l.length) := by show _ = _; omega
        have hi : ¬ (k : Int) < l.length := by omega
        go_wp2
        go_ret
        have h := hA.out
        rw [hke.out, List.take_length] at h
        exact ⟨by rw [hE2.out, h]; rfl, hM.out⟩

theorem rgood_any (c : Cf) (v : Value) (w : World) (h : SetsIn w v c.vars) : Calls Tryd.prog 14 #[c.val v] w fun e w' => e = .returned (.bool c.good) ∧ Mod (fun _ => False) w w' := by
  obtain ⟨n, l, wi, q, f, m, b, en⟩ := c
  obtain ⟨A, cp, rfl, hl, hx, hw⟩ := h
  by_cases hb : n < 1 ∨ 16 < n ∨ 16 < (l.length : Int) ∨ wi < 1 ∨ 16 < wi ∨ q < 2 ∨ 32 < q ∨ f < 1 ∨ m < f ∨ 1000 < m ∨ b < 0 ∨ 256 < b
  · exact rgood_bad n l wi q f m b en A cp w hl hb
  · exact rgood_loop n l wi q f m b en A cp w hl hx hw hb
end Go.Proofs.YtcnjllkmliphkaaDoor
