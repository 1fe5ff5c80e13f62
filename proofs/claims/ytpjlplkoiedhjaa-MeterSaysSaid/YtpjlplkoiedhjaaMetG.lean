/-
  New, and what a meter tells.
-/
import Derived.Test.YtpjlplkoiedhjaaMetE
import Derived.Deep.RegionHeld3
import Derived.Deep.QuietTactic
namespace Go.Proofs.Ytpjlplkoiedhjaa
open Go.RowKit Go.Shoal

theorem least_any (g : Nat) (v : Value) (m : Mt) (w : World) (h : MAt w g v m) : Calls Try.prog 12 #[.pointer (some ⟨g, 0, none⟩)] w fun e w' => e = .returned (.float .f64 m.le) ∧ w = w' := by
  obtain ⟨-, -, -, -, -, c5, -⟩ := h.cellsAre
  clear h
  go_enter Try.func12, Try.ntmps12
  go_wp2
  go_ret
  exact ⟨rfl, rfl⟩
theorem most_any (g : Nat) (v : Value) (m : Mt) (w : World) (h : MAt w g v m) : Calls Try.prog 13 #[.pointer (some ⟨g, 0, none⟩)] w fun e w' => e = .returned (.float .f64 m.mo) ∧ w = w' := by
  obtain ⟨-, -, -, -, -, -, c6⟩ := h.cellsAre
  clear h
  go_enter Try.func13, Try.ntmps13
  go_wp2
  go_ret
  exact ⟨rfl, rfl⟩
theorem smooth_any (g : Nat) (v : Value) (m : Mt) (w : World) (h : MAt w g v m) : Calls Try.prog 14 #[.pointer (some ⟨g, 0, none⟩)] w fun e w' => e = .returned (.float .f64 m.sm) ∧ w = w' := by
  obtain ⟨-, -, -, -, c4, -, -⟩ := h.cellsAre
  clear h
  go_enter Try.func14, Try.ntmps14
  go_wp2
  go_ret
  exact ⟨rfl, rfl⟩
theorem sum_any (g : Nat) (v : Value) (m : Mt) (w : World) (h : MAt w g v m) : Calls Try.prog 17 #[.pointer (some ⟨g, 0, none⟩)] w fun e w' => e = .returned (.float .f64 m.s) ∧ w = w' := by
  obtain ⟨-, -, -, c3, -, -, -⟩ := h.cellsAre
  clear h
  go_enter Try.func17, Try.ntmps17
  go_wp2
  go_ret
  exact ⟨rfl, rfl⟩
theorem rank_any (g : Nat) (v : Value) (m : Mt) (x : Nat) (w : World) (h : MAt w g v m) (ho : m.Ok) (hx : x < B64) (hl : m.ks.length ≤ 1000000) : Calls Try.prog 15 #[.pointer (some ⟨g, 0, none⟩), .float .f64 x] w fun e w' => e = .returned (.int .i64 (rank m.ks (fkey x) : Int)) ∧ ∃ n, w' = w.drewN n := by
  have HKY : Hid (∀ W, Calls Try.prog 36 #[.float .f64 x] W fun e w' => e = .returned (.int .u64 (fkey x)) ∧ W = w') := Lib.hid fun W => key_any x W hx
  have HSR : Hid (∀ n, Calls Try.prog 37 #[v, .int .u64 (fkey x)] (w.drewN n) (Found (w.drewN n) (rank m.ks (fkey x)))) := Lib.hid fun n => search_any v m.ks (fkey x) (w.drewN n) (h.2.1.keep fun _ _ => rfl) ho.rises hl
  obtain ⟨c0, -, -, -, -, -, -⟩ := h.cellsAre
  clear h ho hx hl
  generalize rank m.ks (fkey x) = r at *
  generalize fkey x = K at *
  go_enter Try.func15, Try.ntmps15
  go_wp2_with fail
  go_region_held3 (fun w' => w'.cell? ⟨g, 0, none⟩ = some v) (first | assumption) (first | (go_at_call 36; refine (HKY.out _).mono ?_; rintro e w1 ⟨rfl, rfl⟩) | (go_at_call 37; refine (HSR.out 1).mono ?_; rintro e w1 ⟨⟨bb, rfl⟩, rfl⟩))
  all_goals go_wp2
  all_goals go_ret
  all_goals exact ⟨rfl, 1, rfl⟩
theorem count_any (g : Nat) (v : Value) (m : Mt) (w : World) (h : MAt w g v m) : Calls Try.prog 21 #[.pointer (some ⟨g, 0, none⟩)] w fun e w' => e = .returned (.tuple #[.int .i64 (m.ks.length : Int), .int .i64 (m.n : Int), .int .i64 (m.f : Int)]) ∧ ∃ n, w' = w.drewN n := by
  obtain ⟨c0, c1, c2, -, -, -, -⟩ := h.cellsAre
  obtain ⟨A, c, rfl⟩ := RowOf.form h.2.1
  clear h
  go_enter Try.func21, Try.ntmps21
  go_wp2_with fail
  go_quiet (fail)
  go_wp2
  refine bodyPost_ret (results_tmp3 rfl _ _ _) rfl ?_
  exact ⟨rfl, _, rfl⟩
def newMt : Mt := { ks := [], n := 0, f := 0, s := 0, sm := 0, le := INF, mo := INF + B63 }
theorem newMt_ok : newMt.Ok := ⟨List.Pairwise.nil, Nat.le_refl _, Nat.le_refl _, by decide, by decide, by decide, by decide⟩
def Made (w : World) (e : Ending) (w' : World) : Prop := e = .returned (.pointer (some ⟨w.heap.size, 0, none⟩)) ∧ MAt w' w.heap.size (.slice none 0 0) newMt ∧ Mod (fun _ => False) w w'
theorem new_any (w : World) : Calls Try.prog 9 #[] w (Made w) := by
  have h0 : Flts w (.slice none 0 0) [] := ⟨none, 0, rfl, by simp, fun i hi => absurd hi (by simp), .inl rfl⟩
  have HMIN := Lib.hid (min_any _ _ w h0)
  have HMAX := Lib.hid (max_any _ _ w h0)
  go_enter Try.func9, Try.ntmps9
  go_wp2_with fail
  refine HMIN.out.mono ?_
  rintro e w1 ⟨rfl, rfl⟩
  go_wp2_with fail
  refine HMAX.out.mono ?_
  rintro e w1 ⟨rfl, rfl⟩
  go_wp2
  go_ret
  exact ⟨rfl, ⟨blk_new _ _, RowOf.nil _ _ _, fun e => by cases e⟩, (Mod.refl _ _).alloc _⟩
end Go.Proofs.Ytpjlplkoiedhjaa
