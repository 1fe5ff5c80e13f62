/-
  strconv.FormatUint at base 10, strconv.Itoa; words of an event.
-/
import Derived.Test.YtlklbdnlpljaiaaDoorFmD
import Derived.Lib.ItoaMem
namespace Go.Proofs.YtlklbdnlpljaiaaDoor
open Go.RowKit Go.Shoal

theorem mod_grow (w : World) (k : Nat) (os : Array Obj) : Mod (fun _ => False) w (Go.Sort.grow (w.drewN k) os) :=
  ⟨rfl, rfl, rfl, by rw [Go.Sort.size_grow]; show w.heap.size ≤ w.heap.size + _; omega, fun i hi _ => Go.Sort.heap_grow_old (w.drewN k) os hi⟩
def numS (n : Nat) : ByteArray := ⟨(Lib.decDigits n).toArray⟩
def itoaS (n : Int) : ByteArray := ⟨(Lib.itoa n).toArray⟩
theorem itoa_any (n : Int) (h0 : -9223372036854775808 ≤ n) (h1 : n ≤ 9223372036854775807) (w : World) (hT : Tab w) : Calls Tryd.prog 25 #[.int .i64 n] w fun e w' => e = .returned (.string (itoaS n)) ∧ Mod (fun _ => False) w w' :=
  (Tryd.strconv_Itoa n h0 h1 w hT.2.2).mono fun _ _ ⟨he, k, os, hw⟩ => ⟨he, hw ▸ mod_grow w k os⟩
open Go.Sort in
/-- The new block's bytes are a row of noughts. -/
theorem holds_zero0 (w : World) (T : TypeId) (nd : Nat) (hs : nd ≤ 24) : Holds (fun (b : UInt8) => Value.int .u8 (b.toNat : Int)) (w.alloc (.cells Lib.zeros24 T)) w.heap.size 0 (Array.replicate nd (0 : UInt8)) := fun j hj => by
  have hj' : j < nd := by simpa using hj
  refine ⟨?_, World.frozen?_alloc_new _ _ _ _⟩
  rw [World.cell?_alloc_new, Lib.zeros24_at _ (by omega), getElem!_pos _ j hj]
  simp
open Go.Sort in
theorem fin0 (w : World) (o : Obj) (dk : Array UInt8) (k : Nat) : Mod (fun _ => False) w ((putRow (fun (b : UInt8) => Value.int .u8 (b.toNat : Int)) (w.alloc o) w.heap.size 0 dk).drewN k) := by
  rw [alloc_eq_grow]
  obtain ⟨os', _, e⟩ := putRow_grow_new (fun (b : UInt8) => Value.int .u8 (b.toNat : Int)) w #[o] w.heap.size 0 dk (Nat.le_refl _)
  rw [e]
  exact (mod_grow w 0 os').drewN k
theorem elem24 : Tryd.prog.underlying 92 = some (.array 24 5) := Tryd.underlying92
open Go.Sort in
set_option maxRecDepth 100000 in
set_option maxHeartbeats 6400000 in
theorem ifu_any (u : Nat) (hu64 : u < 18446744073709551616) (w : World) (hT : Tab w) : Calls Tryd.prog 48 #[.int .u64 u, .int .i64 10] w fun e w' => e = .returned (.string (numS u)) ∧ Mod (fun _ => False) w w' := by
  by_cases hs : u < 100
  · have HS := Lib.hid (Tryd.internal_strconv_small u hs)
    have hi : (u : Int) < 100 := by omega
    have hw : wrap64 (u : Int) = (u : Int) := by simp only [wrap64]; omega
    clear hT hu64
    go_enter Tryd.func48, Tryd.ntmps48
    go_wp2_with fail
    refine (HS.out _).mono ?_
    rintro e w' ⟨rfl, rfl⟩
    go_wp2
    go_ret
    exact ⟨rfl, Mod.refl _ _⟩
  · have hu1 : 1 ≤ u := by omega
    have hi : ¬ (u : Int) < 100 := by omega
    have hnd20 : Lib.nDigits u ≤ 20 := by have := Lib.numDigits_eq u hu1 hu64; split at this <;> omega
    have hT1 : Tab (w.alloc (.cells Lib.zeros24 92)) := hT.mod ((Mod.refl _ _).alloc _) (fun h => h)
    have HND := Lib.hid (Tryd.internal_strconv_numDigits u hu1 hu64 (w.alloc (.cells Lib.zeros24 92)) hT1.2.2)
    have hal : Tryd.prog.arrayLen 92 = 24 := by simp [Program.arrayLen]
    have hsl : ∀ W, (Instr.sliceAt 92 (.pointer (some ⟨w.heap.size, 0, none⟩)) none (some (.int .i64 (Lib.nDigits u : Int))) none).run Tryd.prog W = .ok (.slice (some ⟨w.heap.size, 0, none⟩) (Lib.nDigits u) 24) W := fun W => by
      rw [run_sliceAt_array_h W 92 ⟨w.heap.size, 0, none⟩ (by simp [Program.arrayLen, Program.elem]) .i64 (Lib.nDigits u : Int) (by omega) (by rw [hal]; omega)]
      go_simp
    have hH0 := holds_zero0 w 92 (Lib.nDigits u) (by omega)
    have hfmt := Tryd.internal_strconv_formatBase10 w.heap.size 0 24 u (Array.replicate (Lib.nDigits u) 0) (w.alloc (.cells Lib.zeros24 92)) hH0 (by rw [Array.size_replicate]; exact Lib.lt_pow_nDigits u) hu64 (by rw [Array.size_replicate]; omega)
    rw [Array.size_replicate] at hfmt
    have HH0 := Lib.hid hH0
    have HF := Lib.hid hfmt
    have HLN := Lib.hid (Lib.decDigits_length u)
    clear hH0 hal hT hT1 hfmt hs
    go_enter Tryd.func48, Tryd.ntmps48
    go_wp2_with fail
    refine HND.out.mono ?_
    rintro e w' ⟨rfl, rfl⟩
    go_wp2_with fail
    refine HF.out.mono ?_
    rintro e w' ⟨rfl, k, v', dk, rfl, hF⟩
    have HFD := Lib.hid hF
    have hcv : (convert 68 9 (.slice (some ⟨w.heap.size, 0, none⟩) (Lib.nDigits u) 24)).run Tryd.prog ((putRow (fun (b : UInt8) => Value.int .u8 (b.toNat : Int)) (w.alloc (.cells Lib.zeros24 92)) w.heap.size 0 dk).drewN k) = .ok (.string (numS u)) ((putRow (fun (b : UInt8) => Value.int .u8 (b.toNat : Int)) (w.alloc (.cells Lib.zeros24 92)) w.heap.size 0 dk).drewN k) := by
      have h := run_convert_bytes_back (P := Tryd.prog) ((putRow (fun (b : UInt8) => Value.int .u8 (b.toNat : Int)) (w.alloc (.cells Lib.zeros24 92)) w.heap.size 0 dk).drewN k) 68 9 5 ⟨w.heap.size, 0, none⟩ 24 (Lib.decDigits u) Tryd.underlying68 Tryd.underlying5 Tryd.underlying9 (fun j hj => by
        rw [Lib.add_plain, Lib.row_is_numeral hF j hj, World.cell?_drewN]
        exact cell?_putRow (fun (b : UInt8) => Value.int .u8 (b.toNat : Int)) _ w.heap.size 0 _ dk HH0.out (by rw [hF.size, Array.size_replicate]) j (by rw [hF.size]; rw [HLN.out] at hj; exact hj))
      rw [HLN.out] at h
      exact h
    have HM := Lib.hid (fin0 w (.cells Lib.zeros24 92) dk k)
    clear hF HH0 HF HND
    go_wp2
    go_ret
    exact ⟨rfl, HM.out⟩
theorem fu_any (u : Nat) (hu64 : u < 18446744073709551616) (w : World) (hT : Tab w) : Calls Tryd.prog 35 #[.int .u64 u, .int .i64 10] w fun e w' => e = .returned (.string (numS u)) ∧ Mod (fun _ => False) w w' := by
  have H := Lib.hid (ifu_any u hu64 w hT)
  generalize numS u = s at *
  clear hT hu64
  go_enter Tryd.func35, Tryd.ntmps35
  go_wp2_with fail
  refine H.out.mono ?_
  rintro e w' ⟨rfl, hm⟩
  have HM := Lib.hid hm
  clear hm
  go_wp2
  go_ret
  exact ⟨rfl, HM.out⟩
theorem num_any (u : Nat) (hu64 : u < 18446744073709551616) (w : World) (hT : Tab w) : Calls Tryd.prog 34 #[.int .u64 u] w fun e w' => e = .returned (.string (numS u)) ∧ Mod (fun _ => False) w w' := by
  have H := Lib.hid (fu_any u hu64 w hT)
  generalize numS u = s at *
  clear hT hu64
  go_enter Tryd.func34, Tryd.ntmps34
  go_wp2_with fail
  refine H.out.mono ?_
  rintro e w' ⟨rfl, hm⟩
  have HM := Lib.hid hm
  clear hm
  go_wp2
  go_ret
  exact ⟨rfl, HM.out⟩
end Go.Proofs.YtlklbdnlpljaiaaDoor
