/-
  Package past: the reference's NewPast; the two side by side.
-/
import Derived.Test.YteicceikaecfcaaPastRf
import Derived.Deep.RegionHeld3
namespace Go.Proofs.Yteicceikaecfcaa
open Go.RowKit Go.Shoal Go.Maps

theorem info_bools : (Try.prog.info? 55).map (fun i => (i.zero, i.size, i.bytes)) = some (some (.slice none 0 0), 1, 24) := by kernel_rfl
theorem info_ints : (Try.prog.info? 44).map (fun i => (i.zero, i.size, i.bytes)) = some (some (.slice none 0 0), 1, 24) := by kernel_rfl
theorem mk_rows1 (n : Nat) (hn : n ≤ 16) (w : World) : (Instr.makeSlice 59 (.int .i64 n) (.int .i64 n)).run Try.prog w = .ok (.slice (some ⟨w.heap.size, 0, none⟩) n n) (w.alloc (.cells (madeCells #[.slice none 0 0] n) 55)) := by
  obtain ⟨i0, hii, hz0, hz1, hz2⟩ := info_parts info_bools
  have h := run_makeSlice (P := Try.prog) w 59 55 i0 _ Try.underlying59 hii hz0 .i64 .i64 n n (by omega) (by omega) (by rw [hz1]; omega) (by rw [hz2]; omega) (by omega)
  rw [hz1, Int.toNat_natCast, Nat.mul_one] at h
  exact h
theorem mk_rows2 (n : Nat) (hn : n ≤ 16) (w : World) : (Instr.makeSlice 60 (.int .i64 n) (.int .i64 n)).run Try.prog w = .ok (.slice (some ⟨w.heap.size, 0, none⟩) n n) (w.alloc (.cells (madeCells #[.slice none 0 0] n) 44)) := by
  obtain ⟨i0, hii, hz0, hz1, hz2⟩ := info_parts info_ints
  have h := run_makeSlice (P := Try.prog) w 60 44 i0 _ Try.underlying60 hii hz0 .i64 .i64 n n (by omega) (by omega) (by rw [hz1]; omega) (by rw [hz2]; omega) (by omega)
  rw [hz1, Int.toNat_natCast, Nat.mul_one] at h
  exact h
theorem three_new (w : World) (a b c : Obj) : (((w.alloc a).alloc b).alloc c).heap[w.heap.size]? = some a ∧ (((w.alloc a).alloc b).alloc c).heap[w.heap.size + 1]? = some b ∧ (((w.alloc a).alloc b).alloc c).heap[w.heap.size + 1 + 1]? = some c := by
  have s1 : (w.alloc a).heap.size = w.heap.size + 1 := by simp
  have s2 : ((w.alloc a).alloc b).heap.size = w.heap.size + 1 + 1 := by simp
  have h1 := blk_new w a
  have h2 := blk_new (w.alloc a) b
  have h3 := blk_new ((w.alloc a).alloc b) c
  rw [s1] at h2
  rw [s2] at h3
  exact ⟨blk_alloc (blk_alloc h1 _) _, blk_alloc h2 _, h3⟩
/-- The reference, made. -/
def RNew (w : World) (s : Pa) (e : Ending) (w' : World) : Prop := ∃ R r, e = .returned (.pointer (some ⟨R, 0, none⟩)) ∧ RAt w' R r s ∧ Mod (fun _ => False) w w' ∧ ∀ b, RMut R r b → w.heap.size ≤ b
theorem rnew_at {w W : World} {n R kR tR : Nat} {s : Pa} (hm : Mod (fun _ => False) w W) (hn : s.n = n) (ha : s.all = []) (hk : s.knows = fun _ _ => false) (hg : s.got = fun _ => [])
    (h1 : W.heap[R]? = some (.cells #[.int .i64 (n : Int), .slice none 0 0, .slice (some ⟨kR, 0, none⟩) n n, .slice (some ⟨tR, 0, none⟩) n n] 62 (0, 0)))
    (h2 : W.heap[kR]? = some (.cells (madeCells #[.slice none 0 0] n) 55 (0, 0))) (h3 : W.heap[tR]? = some (.cells (madeCells #[.slice none 0 0] n) 44 (0, 0)))
    (b1 : w.heap.size ≤ R) (b2 : w.heap.size ≤ kR) (b3 : w.heap.size ≤ tR) : RNew w s (.returned (.pointer (some ⟨R, 0, none⟩))) W := by
  subst hn
  refine ⟨R, ⟨[], .slice none 0 0, kR, tR, fun _ => .slice none 0 0, fun _ => .slice none 0 0⟩, rfl, ⟨h1, RowOf.nil _ _ _, by rw [ha]; rfl, by rw [← made_row]; exact h2, by rw [← made_row]; exact h3, fun x hx => (by cases hx), fun q hq => ?_, fun q hq => ?_⟩, hm, fun b hb => ?_⟩
  · rw [hk]; exact Bits.nil W
  · rw [hg]; exact RowOf.nil _ _ _
  · rcases hb with rfl | hb | rfl | rfl
    · exact b1
    · cases hb
    · exact b2
    · exact b3
set_option maxHeartbeats 4000000 in
theorem rnew_any (n : Nat) (s : Pa) (w : World) (h16 : n ≤ 16) (hn : s.n = n) (ha : s.all = []) (hk : s.knows = fun _ _ => false) (hg : s.got = fun _ => []) : Calls Try.prog 20 #[.int .i64 n] w (RNew w s) := by
  have h1 := mk_rows1 n h16
  have h2 := mk_rows2 n h16
  have HN := Lib.hid hn
  have HA := Lib.hid ha
  have HK := Lib.hid hk
  have HG := Lib.hid hg
  clear hn ha hk hg
  go_enter Try.func20, Try.ntmps20
  go_wp2_with fail
  go_region_held3 (fun w' => w.heap.size ≤ w'.heap.size) (first | assumption | (simp; done) | (simp; omega)) (first | fail)
  all_goals go_wp2
  all_goals go_ret
  all_goals first
    | exact rnew_at (R := w.heap.size + 1 + 1) (kR := w.heap.size) (tR := w.heap.size + 1) ((((Mod.refl _ w).alloc _).alloc _).alloc _).drew HN.out HA.out HK.out HG.out (three_new w _ _ _).2.2 (three_new w _ _ _).1 (three_new w _ _ _).2.1 (by omega) (by omega) (by omega)
    | exact rnew_at (R := w.heap.size + 1 + 1) (kR := w.heap.size + 1) (tR := w.heap.size) ((((Mod.refl _ w).alloc _).alloc _).alloc _).drew HN.out HA.out HK.out HG.out (three_new w _ _ _).2.2 (three_new w _ _ _).2.1 (three_new w _ _ _).1 (by omega) (by omega) (by omega)
end Go.Proofs.Yteicceikaecfcaa
