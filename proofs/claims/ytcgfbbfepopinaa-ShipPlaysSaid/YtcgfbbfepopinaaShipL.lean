/-
  The walk of shoallaw12's awake.
-/
import Derived.Test.YtcgfbbfepopinaaShipK
import Derived.Lib.SlBytesConst
namespace Go.Proofs.Ytcgfbbfepopinaa
open Go.RowKit Go.Shoal

def bA : ByteArray := ⟨#[97]⟩
def bB : ByteArray := ⟨#[98]⟩
def aw1 : Shp := ⟨1, 3, ⟨2, 8, 2, 2, 0⟩, [⟨1, bA⟩], [], 1⟩
def aw2 : Shp := ⟨1, 3, ⟨2, 8, 2, 2, 0⟩, [⟨1, bA⟩], [bB], 1⟩
def aw3 : Shp := ⟨1, 3, ⟨2, 8, 2, 2, 0⟩, [⟨2, bB⟩], [], 2⟩
theorem aw1_eq : ((Shp.new 1 3 2 8).put bA).filled = aw1 ∧ ((Shp.new 1 3 2 8).put bA).news = [⟨1, bA⟩] := ⟨by rfl, by rfl⟩
theorem aw2_eq : (aw1.put bB).filled = aw2 ∧ (aw1.put bB).news = [] := ⟨by rfl, by rfl⟩
theorem aw3_eq : (aw2.acked 1).filled = aw3 ∧ (aw2.acked 1).news = [⟨2, bB⟩] := ⟨by rfl, by rfl⟩
/-- The bytes of a literal, whose block bears a mark. -/
theorem bytes_one (w : World) (x : UInt8) : SrcOk (w.alloc (.cells #[.int .u8 x.toNat] 5 (1, 2))) (.slice (some ⟨w.heap.size, 0, none⟩) 1 1) 1 1 (byteCells ⟨#[x]⟩) :=
  .inr ⟨_, _, rfl, rfl, fun j u hu => by
    rw [Addr.add_lit, Nat.zero_add, cell_of_row _ _ _ _ _ _ (blk_new w _)]
    simpa [byteCells] using hu, byteCells_one _⟩
theorem ritems_one (w : World) (n : Nat) (b : ByteArray) : RItemsAt (w.alloc (.cells #[.int .u64 n, .string b] 50)) (.slice (some ⟨w.heap.size, 0, none⟩) 1 1) [⟨n, b⟩] :=
  RowOf.new w #[.int .u64 n, .string b] 50 2 1 rfl (by decide)
set_option maxRecDepth 100000 in
set_option maxHeartbeats 2000000 in
theorem awake_any (w : World) : Calls Try.prog 8 #[] w fun e w' => e = .returned (.bool true) ∧ Below w.heap.size w w' := by
  have hcA := fun (w : World) => Lib.run_convert_bytes_const (P := Try.prog) w 31 5 #[.int .u8 97] 1 1 Try.underlying31 Try.underlying5
  have hcB := fun (w : World) => Lib.run_convert_bytes_const (P := Try.prog) w 31 5 #[.int .u8 98] 1 1 Try.underlying31 Try.underlying5
  have HN := Lib.hid (sail_new 1 3 2 8 w (by decide) (by decide) (by decide) (by decide) (by decide) (by decide) (by decide))
  go_enter Try.func8, Try.ntmps8
  go_wp2_with fail
  refine HN.out.mono ?_
  rintro e w1 ⟨rfl, hs⟩
  generalize w.heap.size + 1 = B at *
  have HP := Lib.hid (sail_push (hs.none' ((Mod.refl _ _).alloc (.cells #[.int .u8 97] 5 (1, 2)))) (.slice (some ⟨w1.heap.size, 0, none⟩) 1 1) false bA (Shp.fit_mk _ (by decide) (by decide) rfl rfl (by decide)) (by decide) (by decide) rfl (bytes_one w1 97) (by decide))
  clear hs HN
  go_wp2_with fail
  refine HP.out.mono ?_
  rintro e w2 ⟨v2, rfl, hs⟩
  rw [aw1_eq.1, aw1_eq.2] at hs
  have HP2 := Lib.hid (sail_push (hs.none' ((Mod.refl _ _).alloc (.cells #[.int .u8 98] 5 (1, 2)))) (.slice (some ⟨w2.heap.size, 0, none⟩) 1 1) false bB (Shp.fit_mk _ (by decide) (by decide) rfl rfl (by decide)) (by decide) (by decide) rfl (bytes_one w2 98) (by decide))
  clear hs HP
  go_wp2_with fail
  refine HP2.out.mono ?_
  rintro e w3 ⟨v3, rfl, hs⟩
  rw [aw2_eq.1, aw2_eq.2] at hs
  have HA := Lib.hid (sail_ack hs 1 (Shp.fit_mk _ (by decide) (by decide) rfl rfl (by decide)) (by decide) ⟨_, _, rfl, by decide, by decide⟩)
  clear hs HP2
  go_wp2_with fail
  refine HA.out.mono ?_
  rintro e w4 ⟨v4, rfl, hs⟩
  rw [aw3_eq.1, aw3_eq.2] at hs
  have HS4 := Lib.hid hs
  clear hs HA
  have hm5 : Mod (fun _ => False) w4 (w4.alloc (.cells #[.int .u64 1, .string bA] 50)) := (Mod.refl _ _).alloc _
  have HS5 := Lib.hid (HS4.out.none' hm5)
  obtain ⟨N1, hI1⟩ := HS5.out.safe (r := (v2, [⟨1, bA⟩])) (by simp)
  have HI := Lib.hid (items_same N1 _ v2 _ [⟨1, bA⟩] hI1 (ritems_one w4 1 bA) (by decide))
  clear hI1 hm5
  go_wp2_with fail
  refine HI.out.mono ?_
  rintro e w5 ⟨rfl, n5, hn5⟩
  have HS6 : Hid (Sails w.heap.size B w.heap.size w aw3 _ w5) := HS5.out.none' (by rw [hn5]; exact (Mod.refl _ _).drewN _)
  obtain ⟨N3, hI3⟩ := HS6.out.safe (r := (v3, [])) (by simp)
  obtain ⟨A3, c3, rfl⟩ : ∃ A c, v3 = .slice A 0 c := by
    obtain ⟨l', _, h, _⟩ := hI3
    exact h.form
  have HS7 := Lib.hid (HS6.out.none' ((Mod.refl _ _).alloc (.cells #[.int .u64 2, .string bB] 50)))
  obtain ⟨N4, hI4⟩ := HS7.out.safe (r := (v4, [⟨2, bB⟩])) (by simp)
  have HI4 := Lib.hid (items_same N4 _ v4 _ [⟨2, bB⟩] hI4 (ritems_one w5 2 bB) (by decide))
  clear hn5 hI3 hI4 HI HS5
  go_wp2_with fail
  refine HI4.out.mono ?_
  rintro e w6 ⟨rfl, n6, hn6⟩
  have HS8 : Hid (Sails w.heap.size B w.heap.size w aw3 _ w6) := HS7.out.none' (by rw [hn6]; exact (Mod.refl _ _).drewN _)
  have HL := Lib.hid (sail_last HS8.out)
  clear hn6
  go_wp2_with fail
  refine HL.out.mono ?_
  rintro e w7 ⟨rfl, rfl⟩
  obtain ⟨_, _, _, _, hB, _⟩ := HS8.out
  have HB := Lib.hid hB
  clear hB
  go_wp2
  go_ret
  exact ⟨rfl, HB.out⟩
end Go.Proofs.Ytcgfbbfepopinaa
