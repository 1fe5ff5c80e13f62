/-
  Package ship: New; what Ack calls.
-/
import Derived.Test.YtcgfbbfepopinaaShipE
namespace Go.Proofs.Ytcgfbbfepopinaa
open Go.RowKit Go.Shoal

def Shp.new (win que : Nat) (f m : Int) : Shp := ⟨win, que, ⟨f, m, f, 0, 0⟩, [], [], 0⟩
/-- What New leaves. -/
def NewEnd (w : World) (win que : Nat) (f m : Int) (e : Ending) (w' : World) : Prop :=
  e = .returned (.tuple #[.pointer (some ⟨w.heap.size + 1, 0, none⟩), .int .i64 0]) ∧ ShipAt w' (w.heap.size + 1) w.heap.size (.slice none 0 0) (.slice none 0 0) (Shp.new win que f m) ∧ Mod (fun _ => False) w w'
set_option maxHeartbeats 1000000 in
theorem new_ok (win que : Nat) (f m : Int) (w : World) (h1 : 1 ≤ win) (h2 : win ≤ 16) (h3 : 2 ≤ que) (h4 : que ≤ 32) (h5 : 1 ≤ f) (h6 : f ≤ m) (h7 : m ≤ 1000) :
    Calls Try.prog 9 #[.int .i64 win, .int .i64 que, .int .i64 f, .int .i64 m] w (NewEnd w win que f m) := by
  have HP := Lib.hid (pace_new_ok f m w h5 h6 h7)
  have t1 : decide ((win : Int) < 1) = false := decide_eq_false (by omega)
  have t2 : decide (16 < (win : Int)) = false := decide_eq_false (by omega)
  have t3 : decide ((que : Int) < 2) = false := decide_eq_false (by omega)
  have t4 : decide (32 < (que : Int)) = false := decide_eq_false (by omega)
  go_enter Try.func9, Try.ntmps9
  go_wp2_with fail
  refine HP.out.mono ?_
  rintro e w1 ⟨rfl, hp, hm, hs⟩
  have HP1 := Lib.hid hp
  have HM1 := Lib.hid hm
  have HS1 := Lib.hid hs
  have HE : Hid (NewEnd w win que f m (.returned (.tuple #[.pointer (some ⟨w1.heap.size, 0, none⟩), .int .i64 0])) (w1.alloc (.cells #[.int .i64 win, .int .i64 que, .pointer (some ⟨w.heap.size, 0, none⟩), .slice none 0 0, .slice none 0 0, .int .u64 0] 69))) := by
    refine ⟨by rw [hs], ?_, hm.alloc _⟩
    rw [← hs]
    exact ⟨blk_new _ _, (blk_alloc hp _ : PaceAt _ _ _), ⟨[], rfl, RowOf.nil _ _ _, fun p hp => (by cases hp)⟩, ⟨[], rfl, RowOf.nil _ _ _, fun p hp => (by cases hp)⟩⟩
  clear hp hm hs
  go_wp2
  go_ret2
  exact HE.out
set_option maxHeartbeats 1000000 in
theorem new_no (win que f m : Int) (w : World) (h : win < 1 ∨ 16 < win ∨ que < 2 ∨ 32 < que ∨ f < 1 ∨ m < f ∨ 1000 < m) :
    Calls Try.prog 9 #[.int .i64 win, .int .i64 que, .int .i64 f, .int .i64 m] w fun e w' => e = .returned (.tuple #[.pointer none, .int .i64 1]) ∧ Mod (fun _ => False) w w' := by
  by_cases hp : f < 1 ∨ m < f ∨ 1000 < m
  · have HP := Lib.hid (pace_new_no f m w hp)
    by_cases h1 : win < 1
    · clear h hp
      go_enter Try.func9, Try.ntmps9
      go_wp2_with fail
      refine HP.out.mono ?_
      rintro e w1 ⟨rfl, rfl⟩
      go_wp2
      go_ret2
      exact ⟨rfl, Mod.refl _ _⟩
    by_cases h2 : 16 < win
    · clear h hp
      go_enter Try.func9, Try.ntmps9
      go_wp2_with fail
      refine HP.out.mono ?_
      rintro e w1 ⟨rfl, rfl⟩
      go_wp2
      go_ret2
      exact ⟨rfl, Mod.refl _ _⟩
    by_cases h3 : que < 2
    · clear h hp
      go_enter Try.func9, Try.ntmps9
      go_wp2_with fail
      refine HP.out.mono ?_
      rintro e w1 ⟨rfl, rfl⟩
      go_wp2
      go_ret2
      exact ⟨rfl, Mod.refl _ _⟩
    by_cases h4 : 32 < que
    · clear h hp
      go_enter Try.func9, Try.ntmps9
      go_wp2_with fail
      refine HP.out.mono ?_
      rintro e w1 ⟨rfl, rfl⟩
      go_wp2
      go_ret2
      exact ⟨rfl, Mod.refl _ _⟩
    clear h hp
    go_enter Try.func9, Try.ntmps9
    go_wp2_with fail
    refine HP.out.mono ?_
    rintro e w1 ⟨rfl, rfl⟩
    go_wp2
    go_ret2
    exact ⟨rfl, Mod.refl _ _⟩
  · have HP := Lib.hid (pace_new_ok f m w (by omega) (by omega) (by omega))
    by_cases h1 : win < 1
    · clear h hp
      go_enter Try.func9, Try.ntmps9
      go_wp2_with fail
      refine HP.out.mono ?_
      rintro e w1 ⟨rfl, hp, hm, hs⟩
      have HM := Lib.hid hm
      clear hp hm hs
      go_wp2
      go_ret2
      exact ⟨rfl, HM.out⟩
    by_cases h2 : 16 < win
    · clear h hp
      go_enter Try.func9, Try.ntmps9
      go_wp2_with fail
      refine HP.out.mono ?_
      rintro e w1 ⟨rfl, hp, hm, hs⟩
      have HM := Lib.hid hm
      clear hp hm hs
      go_wp2
      go_ret2
      exact ⟨rfl, HM.out⟩
    by_cases h3 : que < 2
    · clear h hp
      go_enter Try.func9, Try.ntmps9
      go_wp2_with fail
      refine HP.out.mono ?_
      rintro e w1 ⟨rfl, hp, hm, hs⟩
      have HM := Lib.hid hm
      clear hp hm hs
      go_wp2
      go_ret2
      exact ⟨rfl, HM.out⟩
    have h4 : 32 < que := by omega
    clear h hp
    go_enter Try.func9, Try.ntmps9
    go_wp2_with fail
    refine HP.out.mono ?_
    rintro e w1 ⟨rfl, hp, hm, hs⟩
    have HM := Lib.hid hm
    clear hp hm hs
    go_wp2
    go_ret2
    exact ⟨rfl, HM.out⟩

/-- What the closure of Ack says. -/
theorem ack1_any (num n : Nat) (bv : Value) (z : Nat) (w : World) (hz : w.cell? ⟨z, 0, none⟩ = some (.int .u64 n)) :
    Calls Try.prog 29 #[.agg #[.int .u64 num, bv], .pointer (some ⟨z, 0, none⟩)] w fun e w' => e = .returned (.bool (decide (num ≤ n))) ∧ Mod (fun _ => False) w w' := by
  have hlt := World.block_lt_of_cell? w _ hz
  go_enter Try.func29, Try.ntmps29
  go_wp2
  go_ret
  exact ⟨rfl, (Mod.refl _ _).alloc _⟩
end Go.Proofs.Ytcgfbbfepopinaa
