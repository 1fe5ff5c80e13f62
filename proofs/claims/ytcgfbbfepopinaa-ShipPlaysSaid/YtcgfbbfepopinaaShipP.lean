/-
  The walk of ShipKnown.
-/
import Derived.Test.YtcgfbbfepopinaaShipO
namespace Go.Proofs.Ytcgfbbfepopinaa
open Go.RowKit Go.Shoal

def bC : ByteArray := ⟨#[99]⟩
def bD : ByteArray := ⟨#[100]⟩
def bE : ByteArray := ⟨#[101]⟩
def bF : ByteArray := ⟨#[102]⟩
def kn1 : Shp := ⟨2, 2, ⟨2, 8, 2, 2, 0⟩, [⟨1, bA⟩], [], 1⟩
def kn2 : Shp := ⟨2, 2, ⟨2, 8, 2, 2, 0⟩, [⟨1, bA⟩, ⟨2, bB⟩], [], 2⟩
def kn3 : Shp := ⟨2, 2, ⟨2, 8, 2, 2, 0⟩, [⟨1, bA⟩, ⟨2, bB⟩], [bC], 2⟩
def kn4 : Shp := ⟨2, 2, ⟨2, 8, 2, 2, 0⟩, [⟨1, bA⟩, ⟨2, bB⟩], [bC, bE], 2⟩
def kn5 : Shp := ⟨2, 2, ⟨2, 8, 2, 1, 0⟩, [⟨1, bA⟩, ⟨2, bB⟩], [bC, bE], 2⟩
def kn6 : Shp := ⟨2, 2, ⟨2, 8, 4, 4, 1⟩, [⟨1, bA⟩, ⟨2, bB⟩], [bC, bE], 2⟩
def kn7 : Shp := ⟨2, 2, ⟨2, 8, 2, 2, 1⟩, [⟨2, bB⟩, ⟨3, bC⟩], [bE], 3⟩
def kn8 : Shp := ⟨2, 2, ⟨2, 8, 2, 2, 1⟩, [⟨4, bE⟩], [], 4⟩
def kn9 : Shp := ⟨2, 2, ⟨2, 8, 2, 0, 1⟩, [], [], 4⟩
theorem kn1_eq : ((Shp.new 2 2 2 8).put bA).filled = kn1 := by rfl
theorem kn2_eq : (kn1.put bB).filled = kn2 := by rfl
theorem kn3_eq : (kn2.put bC).filled = kn3 := by rfl
theorem kn4_eq : (kn3.put bE).filled = kn4 := by rfl
theorem kn7_eq : (kn6.acked 1).filled = kn7 ∧ (kn6.acked 1).news = [⟨3, bC⟩] := ⟨by rfl, by rfl⟩
theorem kn8_eq : (kn7.acked 3).filled = kn8 ∧ (kn7.acked 3).news = [⟨4, bE⟩] := ⟨by rfl, by rfl⟩
theorem kn9_eq : (kn8.acked 4).filled = kn9 ∧ (kn8.acked 4).news = [] := ⟨by rfl, by rfl⟩
theorem ritems_two (w : World) (n m : Nat) (b c : ByteArray) : RItemsAt (w.alloc (.cells #[.int .u64 n, .string b, .int .u64 m, .string c] 50)) (.slice (some ⟨w.heap.size, 0, none⟩) 2 2) [⟨n, b⟩, ⟨m, c⟩] :=
  RowOf.new w #[.int .u64 n, .string b, .int .u64 m, .string c] 50 2 2 rfl (by decide)
theorem sail_room {base B pb : Nat} {w0 w : World} {s : Shp} {rs : List (Value × List It)} (h : Sails base B pb w0 s rs w) (b : Bool) (hq : 2 ≤ s.que ∧ s.que ≤ 32) : Calls Try.prog 18 #[.pointer (some ⟨B, 0, none⟩), .bool b] w fun e w' => e = .returned (.bool (s.room b)) ∧ Sails base B pb w0 s rs w' := by
  have h' := h
  obtain ⟨ov, wv, a1, a2, a3, a4⟩ := h
  exact (room_any w B pb ov wv s b a1 hq).mono fun e w' ⟨he, n, hn⟩ => ⟨he, h'.none' (by rw [hn]; exact (Mod.refl _ _).drewN n)⟩
theorem mod_new (w : World) (o : Obj) : Mod (fun _ => False) w (w.alloc o) := (Mod.refl _ _).alloc _
set_option maxRecDepth 100000 in
set_option maxHeartbeats 4000000 in
theorem known_any (w : World) : Calls Try.prog 6 #[] w fun e w' => e = .returned (.bool true) ∧ Below w.heap.size w w' := by
  have hcA := fun (w : World) => Lib.run_convert_bytes_const (P := Try.prog) w 31 5 #[.int .u8 97] 1 1 Try.underlying31 Try.underlying5
  have hcB := fun (w : World) => Lib.run_convert_bytes_const (P := Try.prog) w 31 5 #[.int .u8 98] 1 1 Try.underlying31 Try.underlying5
  have hcC := fun (w : World) => Lib.run_convert_bytes_const (P := Try.prog) w 31 5 #[.int .u8 99] 1 1 Try.underlying31 Try.underlying5
  have hcD := fun (w : World) => Lib.run_convert_bytes_const (P := Try.prog) w 31 5 #[.int .u8 100] 1 1 Try.underlying31 Try.underlying5
  have hcE := fun (w : World) => Lib.run_convert_bytes_const (P := Try.prog) w 31 5 #[.int .u8 101] 1 1 Try.underlying31 Try.underlying5
  have hcF := fun (w : World) => Lib.run_convert_bytes_const (P := Try.prog) w 31 5 #[.int .u8 102] 1 1 Try.underlying31 Try.underlying5
  have HA := Lib.hid (awake_any w)
  go_enter Try.func6, Try.ntmps6
  go_wp2_with fail
  refine HA.out.mono ?_
  rintro e x0 ⟨rfl, hm⟩
  have HB0 := Lib.hid hm
  clear hm HA
  have HN0 := Lib.hid (new_no 0 2 1 1 x0 (by decide))
  go_wp2_with fail
  refine HN0.out.mono ?_
  rintro e x1 ⟨rfl, hm⟩
  have HB1 : Hid (Below w.heap.size w x1) := HB0.out.trans (hm.below (fun _ _ x => x) HB0.out.size)
  clear hm HN0 HB0
  have HN1 := Lib.hid (new_no 1 1 1 1 x1 (by decide))
  go_wp2_with fail
  refine HN1.out.mono ?_
  rintro e x2 ⟨rfl, hm⟩
  have HB2 : Hid (Below w.heap.size w x2) := HB1.out.trans (hm.below (fun _ _ x => x) HB1.out.size)
  clear hm HN1 HB1
  have HN2 := Lib.hid (new_no 1 2 2 1 x2 (by decide))
  go_wp2_with fail
  refine HN2.out.mono ?_
  rintro e x3 ⟨rfl, hm⟩
  have HB3 : Hid (Below w.heap.size w x3) := HB2.out.trans (hm.below (fun _ _ x => x) HB2.out.size)
  clear hm HN2 HB2
  have HN := Lib.hid (sail_new 2 2 2 8 x3 (by decide) (by decide) (by decide) (by decide) (by decide) (by decide) (by decide))
  have HBASE : Hid (w.heap.size ≤ x3.heap.size) := HB3.out.size
  go_wp2_with fail
  refine HN.out.mono ?_
  rintro e w1 ⟨rfl, hs⟩
  clear HN
  generalize x3.heap.size + 1 = B at *
  generalize x3.heap.size = base at *
  have HP1 := Lib.hid (sail_push (hs.none' (mod_new w1 (.cells #[.int .u8 97] 5 (1, 2)))) (.slice (some ⟨w1.heap.size, 0, none⟩) 1 1) false bA (Shp.fit_mk _ (by decide) (by decide) rfl rfl (by decide)) (by decide) (by decide) rfl (bytes_one w1 97) (by decide))
  clear hs
  go_wp2_with fail
  refine HP1.out.mono ?_
  rintro e w2 ⟨v2, rfl, hs⟩
  rw [kn1_eq] at hs
  replace hs := hs.less (rs' := []) (fun r hr => (by cases hr))
  clear HP1
  have HP2 := Lib.hid (sail_push (hs.none' (mod_new w2 (.cells #[.int .u8 98] 5 (1, 2)))) (.slice (some ⟨w2.heap.size, 0, none⟩) 1 1) false bB (Shp.fit_mk _ (by decide) (by decide) rfl rfl (by decide)) (by decide) (by decide) rfl (bytes_one w2 98) (by decide))
  clear hs
  go_wp2_with fail
  refine HP2.out.mono ?_
  rintro e w3 ⟨v3, rfl, hs⟩
  rw [kn2_eq] at hs
  replace hs := hs.less (rs' := []) (fun r hr => (by cases hr))
  clear HP2
  have HP3 := Lib.hid (sail_push (hs.none' (mod_new w3 (.cells #[.int .u8 99] 5 (1, 2)))) (.slice (some ⟨w3.heap.size, 0, none⟩) 1 1) false bC (Shp.fit_mk _ (by decide) (by decide) rfl rfl (by decide)) (by decide) (by decide) rfl (bytes_one w3 99) (by decide))
  clear hs
  go_wp2_with fail
  refine HP3.out.mono ?_
  rintro e w4 ⟨v4, rfl, hs⟩
  rw [kn3_eq] at hs
  replace hs := hs.less (rs' := []) (fun r hr => (by cases hr))
  clear HP3
  have HP4 := Lib.hid (sail_push_no (hs.none' (mod_new w4 (.cells #[.int .u8 100] 5 (1, 2)))) (.slice (some ⟨w4.heap.size, 0, none⟩) 1 1) false (by decide) rfl)
  clear hs
  go_wp2_with fail
  refine HP4.out.mono ?_
  rintro e w5 ⟨rfl, hs⟩
  clear HP4
  have HP5 := Lib.hid (sail_push (hs.none' (mod_new w5 (.cells #[.int .u8 101] 5 (1, 2)))) (.slice (some ⟨w5.heap.size, 0, none⟩) 1 1) true bE (Shp.fit_mk _ (by decide) (by decide) rfl rfl (by decide)) (by decide) (by decide) rfl (bytes_one w5 101) (by decide))
  clear hs
  go_wp2_with fail
  refine HP5.out.mono ?_
  rintro e w6 ⟨v6, rfl, hs⟩
  rw [kn4_eq] at hs
  replace hs := hs.less (rs' := []) (fun r hr => (by cases hr))
  clear HP5
  have HP6 := Lib.hid (sail_push_no (hs.none' (mod_new w6 (.cells #[.int .u8 102] 5 (1, 2)))) (.slice (some ⟨w6.heap.size, 0, none⟩) 1 1) true (by decide) rfl)
  clear hs
  go_wp2_with fail
  refine HP6.out.mono ?_
  rintro e w7 ⟨rfl, hs⟩
  clear HP6
  have HH := Lib.hid (sail_ack_no hs 3 (.inr ⟨_, _, rfl, .inr (by decide)⟩))
  clear hs
  go_wp2_with fail
  refine HH.out.mono ?_
  rintro e w8 ⟨rfl, hs⟩
  clear HH
  have HI : Hid (Calls Try.prog 16 #[.pointer (some ⟨B, 0, none⟩)] w8 fun e w' => ∃ A c, e = .returned (.slice A 0 c) ∧ Sails base B base x3 kn5 ((.slice A 0 c, []) :: []) w') := sail_tick hs (Shp.fit_mk _ (by decide) (by decide) rfl rfl (by decide)) ⟨by decide, by decide, by decide, by decide, by decide, by decide⟩ (by decide)
  clear hs
  go_wp2_with fail
  refine HI.out.mono ?_
  rintro e w9 ⟨Ai, ci, rfl, hs⟩
  clear HI
  replace hs := hs.less (rs' := []) (fun r hr => (by cases hr))
  have HJ : Hid (Calls Try.prog 16 #[.pointer (some ⟨B, 0, none⟩)] w9 fun e w' => ∃ A c, e = .returned (.slice A 2 c) ∧ Sails base B base x3 kn6 ((.slice A 2 c, [⟨1, bA⟩, ⟨2, bB⟩]) :: []) w') := sail_tick hs (Shp.fit_mk _ (by decide) (by decide) rfl rfl (by decide)) ⟨by decide, by decide, by decide, by decide, by decide, by decide⟩ (by decide)
  clear hs
  go_wp2_with fail
  refine HJ.out.mono ?_
  rintro e w10 ⟨Aj, cj, rfl, hs⟩
  clear HJ
  have HL0 : Hid (Calls Try.prog 14 #[.pointer (some ⟨B, 0, none⟩)] w10 fun e w' => e = .returned (.tuple #[.int .i64 4, .bool true]) ∧ Sails base B base x3 kn6 ((.slice Aj 2 cj, [⟨1, bA⟩, ⟨2, bB⟩]) :: []) w') := sail_left hs
  clear hs
  go_wp2_with fail
  refine HL0.out.mono ?_
  rintro e w11 ⟨rfl, hs⟩
  clear HL0
  have HK := Lib.hid (sail_ack hs 1 (Shp.fit_mk _ (by decide) (by decide) rfl rfl (by decide)) (by decide) ⟨_, _, rfl, by decide, by decide⟩)
  clear hs
  go_wp2_with fail
  refine HK.out.mono ?_
  rintro e w12 ⟨vk, rfl, hs⟩
  rw [kn7_eq.1, kn7_eq.2] at hs
  clear HK
  have HL1 : Hid (Calls Try.prog 14 #[.pointer (some ⟨B, 0, none⟩)] w12 fun e w' => e = .returned (.tuple #[.int .i64 2, .bool true]) ∧ Sails base B base x3 kn7 ((vk, [⟨3, bC⟩]) :: (.slice Aj 2 cj, [⟨1, bA⟩, ⟨2, bB⟩]) :: []) w') := sail_left hs
  clear hs
  go_wp2_with fail
  refine HL1.out.mono ?_
  rintro e w13 ⟨rfl, hs⟩
  clear HL1
  have HO := Lib.hid (sail_ack hs 3 (Shp.fit_mk _ (by decide) (by decide) rfl rfl (by decide)) (by decide) ⟨_, _, rfl, by decide, by decide⟩)
  clear hs
  go_wp2_with fail
  refine HO.out.mono ?_
  rintro e w14 ⟨vo, rfl, hs⟩
  rw [kn8_eq.1, kn8_eq.2] at hs
  clear HO
  have HP := Lib.hid (sail_ack hs 4 (Shp.fit_mk _ (by decide) (by decide) rfl rfl (by decide)) (by decide) ⟨_, _, rfl, by decide, by decide⟩)
  clear hs
  go_wp2_with fail
  refine HP.out.mono ?_
  rintro e w15 ⟨vp, rfl, hs⟩
  rw [kn9_eq.1, kn9_eq.2] at hs
  clear HP
  obtain ⟨Ap, cp, rfl⟩ : ∃ A c, vp = .slice A 0 c := by
    obtain ⟨_, l', _, h, _⟩ := hs.safe (r := (vp, [])) List.mem_cons_self
    exact h.form
  replace hs := hs.less (rs' := [(vo, [⟨4, bE⟩]), (vk, [⟨3, bC⟩]), (.slice Aj 2 cj, [⟨1, bA⟩, ⟨2, bB⟩])]) (fun r hr => List.mem_cons_of_mem _ hr)
  have HL2 : Hid (Calls Try.prog 14 #[.pointer (some ⟨B, 0, none⟩)] w15 fun e w' => e = .returned (.tuple #[.int .i64 0, .bool false]) ∧ Sails base B base x3 kn9 [(vo, [⟨4, bE⟩]), (vk, [⟨3, bC⟩]), (.slice Aj 2 cj, [⟨1, bA⟩, ⟨2, bB⟩])] w') := sail_left hs
  clear hs
  go_wp2_with fail
  refine HL2.out.mono ?_
  rintro e w16 ⟨rfl, hs⟩
  clear HL2
  have HS := Lib.hid (hs.none' (mod_new w16 (.cells #[.int .u64 1, .string bA, .int .u64 2, .string bB] 50)))
  obtain ⟨N1, hI1⟩ := HS.out.safe (r := (.slice Aj 2 cj, [⟨1, bA⟩, ⟨2, bB⟩])) (List.mem_cons_of_mem _ (List.mem_cons_of_mem _ List.mem_cons_self))
  have HI1 := Lib.hid (items_same N1 _ (.slice Aj 2 cj) _ [⟨1, bA⟩, ⟨2, bB⟩] hI1 (ritems_two w16 1 2 bA bB) (by decide))
  clear hI1 hs
  go_wp2_with fail
  refine HI1.out.mono ?_
  rintro e w17 ⟨rfl, n1, hn1⟩
  have HS1 : Hid (Sails base B base x3 kn9 _ w17) := HS.out.none' (by rw [hn1]; exact (Mod.refl _ _).drewN _)
  clear hn1 HI1 HS
  have HS2 := Lib.hid (HS1.out.none' (mod_new w17 (.cells #[.int .u64 3, .string bC] 50)))
  obtain ⟨N2, hI2⟩ := HS2.out.safe (r := (vk, [⟨3, bC⟩])) (List.mem_cons_of_mem _ List.mem_cons_self)
  have HI2 := Lib.hid (items_same N2 _ vk _ [⟨3, bC⟩] hI2 (ritems_one w17 3 bC) (by decide))
  clear hI2 HS1
  go_wp2_with fail
  refine HI2.out.mono ?_
  rintro e w18 ⟨rfl, n2, hn2⟩
  have HS3 : Hid (Sails base B base x3 kn9 _ w18) := HS2.out.none' (by rw [hn2]; exact (Mod.refl _ _).drewN _)
  clear hn2 HI2 HS2
  have HS4 := Lib.hid (HS3.out.none' (mod_new w18 (.cells #[.int .u64 4, .string bE] 50)))
  obtain ⟨N3, hI3⟩ := HS4.out.safe (r := (vo, [⟨4, bE⟩])) List.mem_cons_self
  have HI3 := Lib.hid (items_same N3 _ vo _ [⟨4, bE⟩] hI3 (ritems_one w18 4 bE) (by decide))
  clear hI3 HS3
  go_wp2_with fail
  refine HI3.out.mono ?_
  rintro e w19 ⟨rfl, n3, hn3⟩
  have hs5 : Sails base B base x3 kn9 [] w19 := (HS4.out.none' (by rw [hn3]; exact (Mod.refl _ _).drewN _)).less (fun r hr => (by cases hr))
  clear hn3 HI3 HS4
  have HO1 : Hid (Calls Try.prog 11 #[.pointer (some ⟨B, 0, none⟩)] w19 fun e w' => ∃ A c, e = .returned (.slice A 0 c) ∧ Sails base B base x3 kn9 ((.slice A 0 c, []) :: []) w') := sail_out hs5 (Shp.fit_mk _ (by decide) (by decide) rfl rfl (by decide))
  clear hs5
  go_wp2_with fail
  refine HO1.out.mono ?_
  rintro e w20 ⟨A1, c1, rfl, hs⟩
  clear HO1
  replace hs := hs.less (rs' := []) (fun r hr => (by cases hr))
  have HW1 : Hid (Calls Try.prog 15 #[.pointer (some ⟨B, 0, none⟩)] w20 fun e w' => ∃ A c, e = .returned (.slice A 0 c) ∧ Sails base B base x3 kn9 [] w') := sail_waits hs (Shp.fit_mk _ (by decide) (by decide) rfl rfl (by decide))
  clear hs
  go_wp2_with fail
  refine HW1.out.mono ?_
  rintro e w21 ⟨A2, c2, rfl, hs⟩
  clear HW1
  have HR1 : Hid (Calls Try.prog 18 #[.pointer (some ⟨B, 0, none⟩), .bool false] w21 fun e w' => e = .returned (.bool true) ∧ Sails base B base x3 kn9 [] w') := sail_room hs false (by decide)
  clear hs
  go_wp2_with fail
  refine HR1.out.mono ?_
  rintro e w22 ⟨rfl, hs⟩
  obtain ⟨_, _, _, _, hB, _⟩ := hs
  have HB : Hid (Below w.heap.size w w22) := below_of' HB3.out hB HBASE.out
  clear hB HR1
  go_wp2
  go_ret
  exact ⟨rfl, HB.out⟩
theorem known_walk (W : World) : Calls Try.prog 6 #[] W fun e w' => e = .returned (.bool true) ∧ Below W.heap.size W w' := known_any W
end Go.Proofs.Ytcgfbbfepopinaa
