/-
  The reference's Good.
-/
import Derived.Test.YtcnjllkmliphkaaDoorKeepB
import Derived.Deep.QuietTactic
import Derived.BigQuiet
namespace Go.Proofs.YtcnjllkmliphkaaDoor
open Go.RowKit Go.Shoal

/-- A contract that leaves the world, met behind draws. -/
theorem quiet_left {P : Program} {f : FuncId} {args : Array Value} {w : World} {n : Nat} {v : Value}
    (h : Calls P f args (w.drewN n) fun e w' => e = .returned v ∧ w.drewN n = w') : Calls P f args (w.drewN n) fun e w'' => e = .returned v ∧ ∃ m, w'' = w.drewN m :=
  h.mono fun _ _ ⟨he, hm⟩ => ⟨he, n, hm.symm⟩
theorem less_test (s t : Nat) (hs : s < 18446744073709551616) (ht : t < 18446744073709551616) : (bits .andNot .u64 (s : Int) (t : Int) != 0) = !decide (lessOf s t = 0) := by
  rw [← within_bits s t hs ht]; rfl


set_option maxRecDepth 100000 in
set_option maxHeartbeats 16000000 in
theorem rgood_bad (n : Int) (l : List Nat) (wi q f m b en : Int) (A : Option Addr) (cp : Nat) (w : World) (hl : l.length ≤ 2 ^ 63 - 1) (hb : n < 1 ∨ 16 < n ∨ 16 < (l.length : Int) ∨ wi < 1 ∨ 16 < wi ∨ q < 2 ∨ 32 < q ∨ f < 1 ∨ m < f ∨ 1000 < m ∨ b < 0 ∨ 256 < b) :
    Calls Tryd.prog 14 #[.agg #[.int .i64 n, .slice A l.length cp, .int .i64 wi, .int .i64 q, .int .i64 f, .int .i64 m, .int .i64 b, .int .i64 en]] w fun e w' => e = .returned (.bool (Cf.good ⟨n, l, wi, q, f, m, b, en⟩)) ∧ Mod (fun _ => False) w w' := by
  have HB : Hid ((w.alloc (.cells #[.int .i64 n, .slice A l.length cp, .int .i64 wi, .int .i64 q, .int .i64 f, .int .i64 m, .int .i64 b, .int .i64 en] 37)).heap[w.heap.size]? = some (.cells #[.int .i64 n, .slice A l.length cp, .int .i64 wi, .int .i64 q, .int .i64 f, .int .i64 m, .int .i64 b, .int .i64 en] 37 (0, 0))) := blk_new _ _
  have HM0 : Hid (Mod (fun _ => False) w (w.alloc (.cells #[.int .i64 n, .slice A l.length cp, .int .i64 wi, .int .i64 q, .int .i64 f, .int .i64 m, .int .i64 b, .int .i64 en] 37))) := (Mod.refl _ _).alloc _
  by_cases g0 : n < 1
  · clear hb
    have hE : Hid (Cf.good ⟨n, l, wi, q, f, m, b, en⟩ = false) := by show _ = _; exact Bool.eq_false_iff.2 (fun h => by simp only [Cf.good, inB, Bool.and_eq_true, decide_eq_true_eq] at h; omega)

    go_enter Tryd.func14, Tryd.ntmps14
    go_wp2
    all_goals go_ret
    all_goals exact ⟨by rw [hE.out]; rfl, (Mod.refl _ _).alloc _⟩
  by_cases g1 : 16 < n
  · clear hb
    have hE : Hid (Cf.good ⟨n, l, wi, q, f, m, b, en⟩ = false) := by show _ = _; exact Bool.eq_false_iff.2 (fun h => by simp only [Cf.good, inB, Bool.and_eq_true, decide_eq_true_eq] at h; omega)

    go_enter Tryd.func14, Tryd.ntmps14
    go_wp2
    all_goals go_ret
    all_goals exact ⟨by rw [hE.out]; rfl, (Mod.refl _ _).alloc _⟩
  by_cases g2 : 16 < (l.length : Int)
  · clear hb
    have hE : Hid (Cf.good ⟨n, l, wi, q, f, m, b, en⟩ = false) := by show _ = _; exact Bool.eq_false_iff.2 (fun h => by simp only [Cf.good, inB, Bool.and_eq_true, decide_eq_true_eq] at h; omega)

    go_enter Tryd.func14, Tryd.ntmps14
    go_wp2
    all_goals go_ret
    all_goals exact ⟨by rw [hE.out]; rfl, (Mod.refl _ _).alloc _⟩
  by_cases g3 : wi < 1
  · clear hb
    have hE : Hid (Cf.good ⟨n, l, wi, q, f, m, b, en⟩ = false) := by show _ = _; exact Bool.eq_false_iff.2 (fun h => by simp only [Cf.good, inB, Bool.and_eq_true, decide_eq_true_eq] at h; omega)

    go_enter Tryd.func14, Tryd.ntmps14
    go_wp2
    all_goals go_ret
    all_goals exact ⟨by rw [hE.out]; rfl, (Mod.refl _ _).alloc _⟩
  by_cases g4 : 16 < wi
  · clear hb
    have hE : Hid (Cf.good ⟨n, l, wi, q, f, m, b, en⟩ = false) := by show _ = _; exact Bool.eq_false_iff.2 (fun h => by simp only [Cf.good, inB, Bool.and_eq_true, decide_eq_true_eq] at h; omega)

    go_enter Tryd.func14, Tryd.ntmps14
    go_wp2
    all_goals go_ret
    all_goals exact ⟨by rw [hE.out]; rfl, (Mod.refl _ _).alloc _⟩
  by_cases g5 : q < 2
  · clear hb
    have hE : Hid (Cf.good ⟨n, l, wi, q, f, m, b, en⟩ = false) := by show _ = _; exact Bool.eq_false_iff.2 (fun h => by simp only [Cf.good, inB, Bool.and_eq_true, decide_eq_true_eq] at h; omega)

    go_enter Tryd.func14, Tryd.ntmps14
    go_wp2
    all_goals go_ret
    all_goals exact ⟨by rw [hE.out]; rfl, (Mod.refl _ _).alloc _⟩
  by_cases g6 : 32 < q
  · clear hb
    have hE : Hid (Cf.good ⟨n, l, wi, q, f, m, b, en⟩ = false) := by show _ = _; exact Bool.eq_false_iff.2 (fun h => by simp only [Cf.good, inB, Bool.and_eq_true, decide_eq_true_eq] at h; omega)

    go_enter Tryd.func14, Tryd.ntmps14
    go_wp2
    all_goals go_ret
    all_goals exact ⟨by rw [hE.out]; rfl, (Mod.refl _ _).alloc _⟩
  by_cases g7 : f < 1
  · clear hb
    have hE : Hid (Cf.good ⟨n, l, wi, q, f, m, b, en⟩ = false) := by show _ = _; exact Bool.eq_false_iff.2 (fun h => by simp only [Cf.good, inB, Bool.and_eq_true, decide_eq_true_eq] at h; omega)

    go_enter Tryd.func14, Tryd.ntmps14
    go_wp2
    all_goals go_ret
    all_goals exact ⟨by rw [hE.out]; rfl, (Mod.refl _ _).alloc _⟩
  by_cases g8 : m < f
  · clear hb
    have hE : Hid (Cf.good ⟨n, l, wi, q, f, m, b, en⟩ = false) := by show _ = _; exact Bool.eq_false_iff.2 (fun h => by simp only [Cf.good, inB, Bool.and_eq_true, decide_eq_true_eq] at h; omega)

    go_enter Tryd.func14, Tryd.ntmps14
    go_wp2
    all_goals go_ret
    all_goals exact ⟨by rw [hE.out]; rfl, (Mod.refl _ _).alloc _⟩
  by_cases g9 : 1000 < m
  · clear hb
    have hE : Hid (Cf.good ⟨n, l, wi, q, f, m, b, en⟩ = false) := by show _ = _; exact Bool.eq_false_iff.2 (fun h => by simp only [Cf.good, inB, Bool.and_eq_true, decide_eq_true_eq] at h; omega)

    go_enter Tryd.func14, Tryd.ntmps14
    go_wp2
    all_goals go_ret
    all_goals exact ⟨by rw [hE.out]; rfl, (Mod.refl _ _).alloc _⟩
  by_cases g10 : b < 0
  · clear hb
    have hE : Hid (Cf.good ⟨n, l, wi, q, f, m, b, en⟩ = false) := by show _ = _; exact Bool.eq_false_iff.2 (fun h => by simp only [Cf.good, inB, Bool.and_eq_true, decide_eq_true_eq] at h; omega)

    go_enter Tryd.func14, Tryd.ntmps14
    go_wp2
    all_goals go_ret
    all_goals exact ⟨by rw [hE.out]; rfl, (Mod.refl _ _).alloc _⟩
  by_cases g11 : 256 < b
  · clear hb
    have hE : Hid (Cf.good ⟨n, l, wi, q, f, m, b, en⟩ = false) := by show _ = _; exact Bool.eq_false_iff.2 (fun h => by simp only [Cf.good, inB, Bool.and_eq_true, decide_eq_true_eq] at h; omega)

    go_enter Tryd.func14, Tryd.ntmps14
    go_wp2
    all_goals go_ret
    all_goals exact ⟨by rw [hE.out]; rfl, (Mod.refl _ _).alloc _⟩
  omega
end Go.Proofs.YtcnjllkmliphkaaDoor
