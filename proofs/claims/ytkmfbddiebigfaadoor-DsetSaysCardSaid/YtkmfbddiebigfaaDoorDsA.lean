/-
  dset.First over the laid table.
-/
import Derived.Test.YtkmfbddiebigfaaDoorPlaceA
import Derived.Shelf.Spec.TrailingZeros
import Derived.Lib.LaidTab
namespace Go.Proofs.YtkmfbddiebigfaaDoor
open Go.RowKit Go.Shoal

/-- The laid table. -/
def Tab (w : World) : Prop := 0 < w.heap.size ∧ ∀ j, j < 64 → w.cell? ⟨0, j, none⟩ = some (.int .u8 ((Lib.deBruijn64tab.getD j 0 : Nat) : Int))
theorem Tab.mod {S : Nat → Prop} {w w' : World} (h : Tab w) (hm : Mod S w w') (hs : ¬ S 0) : Tab w' :=
  ⟨Nat.lt_of_lt_of_le h.1 hm.size, fun j hj => by rw [World.cell?_of_block (hm.block _ h.1 hs)]; exact h.2 j hj⟩

set_option maxHeartbeats 1000000 in
theorem tz_core (x k idx : Nat) (w : World) (hx0 : ((x : Int) == 0) = false)
    (key : IntKind.u64.wrap (bits BinOp.and IntKind.u64 (x : Int) (IntKind.u64.wrap (-(x : Int))) * 285870213051353865) / 288230376151711744 = (idx : Int))
    (hi : idx < 64) (hk : k < 64) (hcell : w.cell? ⟨0, idx, none⟩ = some (.int .u8 k)) :
    Calls Tryd.prog 29 #[.int .u64 x] w fun e w' => e = .returned (.int .i64 k) ∧ w = w' := by
  go_enter Tryd.func29, Tryd.ntmps29
  go_wp2_with (simp only [key])
  go_ret
  exact ⟨rfl, rfl⟩
theorem tz_any (x : Nat) (w : World) (hx : x < 18446744073709551616) (hx0 : x ≠ 0) (hT : Tab w) :
    Calls Tryd.prog 29 #[.int .u64 x] w fun e w' => e = .returned (.int .i64 (Lib.ctz 64 x)) ∧ w = w' := by
  obtain ⟨hlow, hk⟩ := Lib.lowest_bit 64 x hx0 hx
  obtain ⟨hi, htab⟩ := Lib.deBruijn64_at _ hk
  have hcell := hT.2 _ hi
  rw [htab] at hcell
  exact tz_core x _ _ w (by simp; omega) (tz64_key x _ hx hx0 hlow) hi hk hcell

/-- The first of a set. -/
def firstOf (s : Nat) : Int × Bool := if s = 0 then (0, false) else (Lib.ctz 64 s, true)
def pairV (x : Int × Bool) : Value := .tuple #[.int .i64 x.1, .bool x.2]
set_option maxHeartbeats 400000 in
theorem first_any (s : Nat) (w : World) (hs : s < 18446744073709551616) (hT : Tab w) :
    Calls Tryd.prog 10 #[.int .u64 s] w fun e w' => e = .returned (pairV (firstOf s)) ∧ w = w' := by
  by_cases h : s = 0
  · subst h
    go_enter Tryd.func10, Tryd.ntmps10
    go_wp2
    go_ret2
    exact ⟨rfl, rfl⟩
  · have HE : Hid (firstOf s = (((Lib.ctz 64 s : Nat) : Int), true)) := by show _ = _; simp [firstOf, h]
    have HT := Lib.hid (tz_any s w hs h hT)
    have h1 : ((s : Int) == 0) = false := by simp; omega
    clear h
    generalize Lib.ctz 64 s = k at HE HT
    go_enter Tryd.func10, Tryd.ntmps10
    go_wp2_with fail
    refine HT.out.mono ?_
    rintro e w1 ⟨rfl, rfl⟩
    go_wp2
    go_ret2
    exact ⟨by rw [HE.out]; rfl, rfl⟩

end Go.Proofs.YtkmfbddiebigfaaDoor
