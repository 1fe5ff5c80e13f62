/-
  awake.
-/
import Derived.Test.YtpdpnhikcmpcdaaCellI
import Derived.Laws.StructEq
namespace Go.Proofs.Ytpdpnhikcmpcdaa
open Go.RowKit Go.Shoal

def two : Nat := 4611686018427387904
def cw0 : Cl := Cl.new someCf 1
def cw1 : Cl := cw0.wrote 0 two
theorem same_two (w : World) : Calls Try.prog 16 #[.agg #[.float .f64 4611686018427387904, .int .i64 1, .int .u64 1], .agg #[.float .f64 4611686018427387904, .int .i64 1, .int .u64 1]] w (Told w (.bool true)) := by
  have h := same_any ⟨two, 1, 1⟩ ⟨two, 1, 1⟩ w (by decide) (by decide)
  rw [show Vl.same ⟨two, 1, 1⟩ ⟨two, 1, 1⟩ = true by decide +kernel] at h
  exact h
set_option maxRecDepth 100000 in
set_option maxHeartbeats 2000000 in
theorem awake_any (w : World) : Calls Try.prog 7 #[] w fun e w' => e = .returned (.bool true) ∧ Below w.heap.size w w' := by
  have HS := Lib.hid (some_any' w)
  have heq : ∀ w, (binOp .eql 35 (.agg #[.float .f64 4611686018427387904, .int .i64 1, .int .u64 1]) (.agg #[.float .f64 4611686018427387904, .int .i64 1, .int .u64 1])).run Try.prog w = .ok (.bool true) w := fun _ => by kernel_rfl
  go_enter Try.func7, Try.ntmps7
  go_wp2_with fail
  refine HS.out.mono ?_
  rintro e w1 ⟨v, rfl, hs, hm⟩
  have HM1 : Hid (Below w.heap.size w w1) := hm.none_below
  have HN := Lib.hid (new_yes someCf v 1 w1 hs (by decide +kernel) (by decide) (by decide))
  clear hs hm HS
  go_wp2_with fail
  refine HN.out.mono ?_
  rintro e w2 hn
  obtain ⟨B, vb, cv, rfl, hS⟩ := Sits.new hn
  have HB0 : Hid (w.heap.size ≤ w1.heap.size) := HM1.out.size
  have HC : Hid (Calls Try.prog 10 #[.pointer (some ⟨B, 0, none⟩), .int .i64 0, .float .f64 4611686018427387904] w2 fun e w' => e = .returned (.tuple #[.agg #[.float .f64 4611686018427387904, .int .i64 1, .int .u64 1], .int .i64 0]) ∧ Sits w1.heap.size B vb cv w1 cw1 w' ∧ Mod (fun i => i = B ∨ i = vb) w2 w') :=
    sit_write (s := cw0) hS 0 two (by decide +kernel) (by decide +kernel) (by decide +kernel)
  clear hn hS HN
  go_wp2_with fail
  refine HC.out.mono ?_
  rintro e w3 ⟨rfl, hS, _⟩
  have hz3 : B ≠ w3.heap.size ∧ vb ≠ w3.heap.size := ⟨Nat.ne_of_lt (blk_lt hS.at'.top), Nat.ne_of_lt (blk_lt hS.at'.vals)⟩
  have hb3 := blk_new w3 (.cells #[.float .f64 4611686018427387904, .int .i64 1, .int .u64 1] 35)
  have HB3 := Lib.hid hb3
  have HC2 : Hid (Calls Try.prog 11 #[.pointer (some ⟨B, 0, none⟩), .int .i64 0] (w3.alloc (.cells #[.float .f64 4611686018427387904, .int .i64 1, .int .u64 1] 35)) fun e w' => e = .returned (.tuple #[.agg #[.float .f64 4611686018427387904, .int .i64 1, .int .u64 1], .int .i64 0]) ∧ Sits w1.heap.size B vb cv w1 cw1 w' ∧ Mod (fun i => i = B ∨ i = vb) (w3.alloc (.cells #[.float .f64 4611686018427387904, .int .i64 1, .int .u64 1] 35)) w') :=
    sit_read (s := cw1) (x := ⟨two, 1, 1⟩) (hS.same ((Mod.refl _ _).alloc _)) 0 (by decide +kernel) rfl
  clear hS HC hb3
  go_wp2_with fail
  refine HC2.out.mono ?_
  rintro e w4 ⟨rfl, hS, hm⟩
  have hb4 := hm.blk HB3.out (fun e => by omega)
  obtain ⟨a0, a1, a2⟩ := three_cells hb4
  have HS5 := Lib.hid (hS.same (w' := w4.alloc (.cells #[.float .f64 4611686018427387904, .int .i64 1, .int .u64 1] 35)) ((Mod.refl _ _).alloc _))
  have HA : Hid (∀ w, Calls Try.prog 16 #[.agg #[.float .f64 4611686018427387904, .int .i64 1, .int .u64 1], .agg #[.float .f64 4611686018427387904, .int .i64 1, .int .u64 1]] w (Told w (.bool true))) := same_two
  have hlt : w3.heap.size < w4.heap.size := blk_lt hb4
  clear hS hm HC2 HB3 hb4
  go_wp2_with fail
  refine (HA.out _).mono ?_
  rintro e w5 ⟨rfl, hm⟩
  have HT : Hid (Calls Try.prog 18 #[.pointer (some ⟨B, 0, none⟩)] w5 fun e w' => e = .returned (.int .u64 1) ∧ Sits w1.heap.size B vb cv w1 cw1 w' ∧ Mod (fun i => i = B ∨ i = vb) w5 w') := sit_tags (HS5.out.same hm)
  clear hm HS5 HA
  go_wp2_with fail
  refine HT.out.mono ?_
  rintro e w6 ⟨rfl, hS, _⟩
  have HE : Hid (Below w.heap.size w w6) := HM1.out.trans (hS.bel.mono HB0.out)
  clear hS HT
  go_wp2
  go_ret
  exact ⟨rfl, HE.out⟩
end Go.Proofs.Ytpdpnhikcmpcdaa
