/-
  The reference's Show.
-/
import Derived.Test.YtgpjipgbighplaaDoorFlP
namespace Go.Proofs.YtgpjipgbighplaaDoor
open Go.RowKit Go.Shoal

def hexN : Nat → Nat → List UInt8 → List UInt8
  | 0, _, ds => ds
  | n + 1, v, ds => hexN n (v / 16) (hexD (v % 16) :: ds)
theorem hexN_zero (n : Nat) : ∀ ds, hexN n 0 ds = List.replicate n 48 ++ ds := by
  induction n with
  | zero => intro ds; rfl
  | succ n ih =>
    intro ds
    rw [hexN, ih, List.replicate_succ', List.append_assoc]
    rfl
theorem hexF_hexN (n : Nat) : ∀ (v : Nat) (ds : List UInt8), v < 16 ^ (n + 1) → List.replicate (n + 1 + ds.length - (hexF (n + 1) v ds).length) 48 ++ hexF (n + 1) v ds = hexN (n + 1) v ds := by
  induction n with
  | zero =>
    intro v ds h
    rw [hexF, if_pos (by omega), hexN, hexN, List.length_cons, show 0 + 1 + ds.length - (ds.length + 1) = 0 by omega, Nat.mod_eq_of_lt (by omega)]
    rfl
  | succ n ih =>
    intro v ds h
    rw [hexF, hexN]
    by_cases hv : v < 16
    · rw [if_pos hv, Nat.div_eq_of_lt hv, Nat.mod_eq_of_lt hv, hexN_zero, List.length_cons, show n + 1 + 1 + ds.length - (ds.length + 1) = n + 1 by omega]
    · rw [if_neg hv, ← ih _ _ (hex_lt h), List.length_cons, show n + 1 + 1 + ds.length = n + 1 + (ds.length + 1) by omega]
theorem hexN_range (n : Nat) : ∀ (v : Nat) (ds : List UInt8), hexN n v ds = (List.range n).map (fun i => hexD (v / 16 ^ (n - 1 - i) % 16)) ++ ds := by
  induction n with
  | zero => intro v ds; rfl
  | succ n ih =>
    intro v ds
    rw [hexN, ih, List.range_succ, List.map_append, List.append_assoc]
    congr 1
    · apply List.map_congr_left
      intro i hi
      have hi := List.mem_range.1 hi
      have e : n + 1 - 1 - i = (n - 1 - i) + 1 := by omega
      rw [e, Nat.div_div_eq_div_mul, Nat.pow_succ, Nat.mul_comm]
    · simp
theorem hex16_range (u : Nat) (hu : u < B64) : hex16 u = (List.range 16).map (fun i => hexD (u / 16 ^ (15 - i) % 16)) := by
  have h := hexF_hexN 15 u [] hu
  rw [hexN_range, List.append_nil] at h
  exact h
def cutHex (u k : Nat) : List UInt8 := (List.range k).map (fun i => hexD (u / 16 ^ (15 - i) % 16))
theorem cutHex_succ (u k : Nat) : cutHex u (k + 1) = cutHex u k ++ [hexD (u / 16 ^ (15 - k) % 16)] := by
  unfold cutHex
  rw [List.range_succ, List.map_append]
  rfl
theorem cutHex_len (u k : Nat) : (cutHex u k).length = k := by unfold cutHex; rw [List.length_map, List.length_range]
theorem slice_hex (d : Nat) (h : d < 16) (w : World) : (Instr.sliceAt 9 (.string ⟨#[48, 49, 50, 51, 52, 53, 54, 55, 56, 57, 97, 98, 99, 100, 101, 102]⟩) (some (.int .u64 (d : Int))) (some (.int .u64 ((d : Int) + 1))) none).run Tryd.prog w = .ok (.string ⟨[hexD d].toArray⟩) w := by
  have hd : d = 0 ∨ d = 1 ∨ d = 2 ∨ d = 3 ∨ d = 4 ∨ d = 5 ∨ d = 6 ∨ d = 7 ∨ d = 8 ∨ d = 9 ∨ d = 10 ∨ d = 11 ∨ d = 12 ∨ d = 13 ∨ d = 14 ∨ d = 15 := by omega
  rcases hd with rfl | rfl | rfl | rfl | rfl | rfl | rfl | rfl | rfl | rfl | rfl | rfl | rfl | rfl | rfl | rfl
  all_goals (show _ = _; kernel_rfl)
set_option maxRecDepth 100000 in
set_option maxHeartbeats 8000000 in
theorem rshow_any (x : Nat) (hx : x < B64) (w : World) : Calls Tryd.prog 31 #[.float .f64 x] w fun e w' => e = .returned (.string ⟨(showW x).toArray⟩) ∧ w = w' := by
  have H1 := Lib.hid (rclass_any x w hx)
  have hcc := class_cases x hx
  have HE : Hid (showW x = if isN x then [110, 97, 110] else if x == INF then [105, 110, 102] else if x == INF + B63 then [45, 105, 110, 102] else cutHex x 16) := by
    show _ = _
    unfold cutHex
    rw [← hex16_range x hx]
    rfl
  have HR := Lib.hid (fun k => cutHex_succ x k)
  have hxx := hx
  generalize showW x = r at *
  generalize classW x = c at *
  cases hn : isN x
  rotate_left
  · rw [hn] at hcc HE
    replace hcc : c = 0 := hcc
    subst hcc
    clear hx hxx HR hn
    go_enter Tryd.func31, Tryd.ntmps31
    go_wp2_with fail
    refine H1.out.mono ?_
    rintro e w1 ⟨rfl, rfl⟩
    go_wp2
    go_ret
    exact ⟨by rw [HE.out]; rfl, rfl⟩
  rw [hn] at hcc HE
  by_cases h2 : (x == INF + B63) = true
  · have h3 : (x == INF) = false := by
      rw [beq_iff_eq] at h2
      rw [beq_eq_false_iff_ne, h2]
      decide
    rw [h2, h3] at hcc HE
    replace hcc : c = 1 := hcc
    subst hcc
    clear hx hxx HR hn h2 h3
    go_enter Tryd.func31, Tryd.ntmps31
    go_wp2_with fail
    refine H1.out.mono ?_
    rintro e w1 ⟨rfl, rfl⟩
    go_wp2
    go_ret
    exact ⟨by rw [HE.out]; rfl, rfl⟩
  have h2' : (x == INF + B63) = false := by simpa using h2
  by_cases h3 : (x == INF) = true
  · rw [h2', h3] at hcc HE
    replace hcc : c = 6 := hcc
    subst hcc
    clear hx hxx HR hn h2 h2' h3
    go_enter Tryd.func31, Tryd.ntmps31
    go_wp2_with fail
    refine H1.out.mono ?_
    rintro e w1 ⟨rfl, rfl⟩
    go_wp2
    go_ret
    exact ⟨by rw [HE.out]; rfl, rfl⟩
  have h3' : (x == INF) = false := by simpa using h3
  rw [h2', h3'] at hcc HE
  have hc : c = 2 ∨ c = 5 ∨ c = 3 ∨ c = 4 := by
    rw [if_neg (by decide), if_neg (by decide), if_neg (by decide)] at hcc
    rw [hcc]
    split
    · exact .inl rfl
    · split
      · exact .inr (.inl rfl)
      · split
        · exact .inr (.inr (.inl rfl))
        · exact .inr (.inr (.inr rfl))
  have c0 : (c == 0) = false := by rw [beq_eq_false_iff_ne]; omega
  have c1 : (c == 1) = false := by rw [beq_eq_false_iff_ne]; omega
  have c6 : (c == 6) = false := by rw [beq_eq_false_iff_ne]; omega
  have HX := Lib.hid hxx
  clear hx hxx hn h2 h3 h2' h3' hc hcc
  go_enter Tryd.func31, Tryd.ntmps31
  go_wp2_with fail
  refine H1.out.mono ?_
  rintro e w1 ⟨rfl, rfl⟩
  go_wp2
  go_loop [5, 6] (fun s i => ∃ k : Nat, k ≤ 16 ∧ i = .int .i64 k ∧ s = .string ⟨(cutHex x k).toArray⟩) (fun _ i => 16 - (intOf i).toNat)
  case atStart => exact ⟨0, by decide, rfl, rfl⟩
  case round =>
    obtain ⟨k, hk, rfl, rfl⟩ := hrel
    by_cases hlt : k < 16
    · have hsucc := HR.out k
      have hl := cutHex_len x k
      have hd : x / 16 ^ (15 - k) % 16 < 16 := Nat.mod_lt _ (by decide)
      have hle : x / 16 ^ (15 - k) ≤ x := Nat.div_le_self _ _
      have ha := and_15 (x / 16 ^ (15 - k)) (Nat.lt_of_le_of_lt hle HX.out)
      rw [Int.natCast_ediv] at ha
      have hs := slice_hex _ hd
      obtain ⟨d, hde⟩ : ∃ d, d = x / 16 ^ (15 - k) % 16 := ⟨_, rfl⟩
      rw [← hde] at hsucc hd ha hs
      have HS := Lib.hid hsucc
      have HAPP := Lib.hid (str_app (cutHex x k) [hexD d])
      generalize hz : cutHex x k = z at *
      have HZ := Lib.hid hz
      have hsum : (⟨z.toArray⟩ : ByteArray).size + (⟨[hexD d].toArray⟩ : ByteArray).size ≤ 9223372036854775807 := by show z.length + 1 ≤ _; omega
      clear hsucc hle hde hz
      have hk16 : k = 0 ∨ k = 1 ∨ k = 2 ∨ k = 3 ∨ k = 4 ∨ k = 5 ∨ k = 6 ∨ k = 7 ∨ k = 8 ∨ k = 9 ∨ k = 10 ∨ k = 11 ∨ k = 12 ∨ k = 13 ∨ k = 14 ∨ k = 15 := by omega
      rcases hk16 with rfl | rfl | rfl | rfl | rfl | rfl | rfl | rfl | rfl | rfl | rfl | rfl | rfl | rfl | rfl | rfl
      · have ha2 : bits .and .u64 ((x : Int) / 1152921504606846976) 15 = (d : Int) := ha
        clear ha
        go_wp2
        go_round
        case rel => exact ⟨1, by decide, rfl, by rw [show cutHex x 1 = z ++ [hexD d] from HS.out, ← HAPP.out]⟩
        case measure => simp [intOf]
      · have ha2 : bits .and .u64 ((x : Int) / 72057594037927936) 15 = (d : Int) := ha
        clear ha
        go_wp2
        go_round
        case rel => exact ⟨2, by decide, rfl, by rw [show cutHex x 2 = z ++ [hexD d] from HS.out, ← HAPP.out]⟩
        case measure => simp [intOf]
      · have ha2 : bits .and .u64 ((x : Int) / 4503599627370496) 15 = (d : Int) := ha
        clear ha
        go_wp2
        go_round
        case rel => exact ⟨3, by decide, rfl, by rw [show cutHex x 3 = z ++ [hexD d] from HS.out, ← HAPP.out]⟩
        case measure => simp [intOf]
      · have ha2 : bits .and .u64 ((x : Int) / 281474976710656) 15 = (d : Int) := ha
        clear ha
        go_wp2
        go_round
        case rel => exact ⟨4, by decide, rfl, by rw [show cutHex x 4 = z ++ [hexD d] from HS.out, ← HAPP.out]⟩
        case measure => simp [intOf]
      · have ha2 : bits .and .u64 ((x : Int) / 17592186044416) 15 = (d : Int) := ha
        clear ha
        go_wp2
        go_round
        case rel => exact ⟨5, by decide, rfl, by rw [show cutHex x 5 = z ++ [hexD d] from HS.out, ← HAPP.out]⟩
        case measure => simp [intOf]
      · have ha2 : bits .and .u64 ((x : Int) / 1099511627776) 15 = (d : Int) := ha
        clear ha
        go_wp2
        go_round
        case rel => exact ⟨6, by decide, rfl, by rw [show cutHex x 6 = z ++ [hexD d] from HS.out, ← HAPP.out]⟩
        case measure => simp [intOf]
      · have ha2 : bits .and .u64 ((x : Int) / 68719476736) 15 = (d : Int) := ha
        clear ha
        go_wp2
        go_round
        case rel => exact ⟨7, by decide, rfl, by rw [show cutHex x 7 = z ++ [hexD d] from HS.out, ← HAPP.out]⟩
        case measure => simp [intOf]
      · have ha2 : bits .and .u64 ((x : Int) / 4294967296) 15 = (d : Int) := ha
        clear ha
        go_wp2
        go_round
        case rel => exact ⟨8, by decide, rfl, by rw [show cutHex x 8 = z ++ [hexD d] from HS.out, ← HAPP.out]⟩
        case measure => simp [intOf]
      · have ha2 : bits .and .u64 ((x : Int) / 268435456) 15 = (d : Int) := ha
        clear ha
        go_wp2
        go_round
        case rel => exact ⟨9, by decide, rfl, by rw [show cutHex x 9 = z ++ [hexD d] from HS.out, ← HAPP.out]⟩
        case measure => simp [intOf]
      · have ha2 : bits .and .u64 ((x : Int) / 16777216) 15 = (d : Int) := ha
        clear ha
        go_wp2
        go_round
        case rel => exact ⟨10, by decide, rfl, by rw [show cutHex x 10 = z ++ [hexD d] from HS.out, ← HAPP.out]⟩
        case measure => simp [intOf]
      · have ha2 : bits .and .u64 ((x : Int) / 1048576) 15 = (d : Int) := ha
        clear ha
        go_wp2
        go_round
        case rel => exact ⟨11, by decide, rfl, by rw [show cutHex x 11 = z ++ [hexD d] from HS.out, ← HAPP.out]⟩
        case measure => simp [intOf]
      · have ha2 : bits .and .u64 ((x : Int) / 65536) 15 = (d : Int) := ha
        clear ha
        go_wp2
        go_round
        case rel => exact ⟨12, by decide, rfl, by rw [show cutHex x 12 = z ++ [hexD d] from HS.out, ← HAPP.out]⟩
        case measure => simp [intOf]
      · have ha2 : bits .and .u64 ((x : Int) / 4096) 15 = (d : Int) := ha
        clear ha
        go_wp2
        go_round
        case rel => exact ⟨13, by decide, rfl, by rw [show cutHex x 13 = z ++ [hexD d] from HS.out, ← HAPP.out]⟩
        case measure => simp [intOf]
      · have ha2 : bits .and .u64 ((x : Int) / 256) 15 = (d : Int) := ha
        clear ha
        go_wp2
        go_round
        case rel => exact ⟨14, by decide, rfl, by rw [show cutHex x 14 = z ++ [hexD d] from HS.out, ← HAPP.out]⟩
        case measure => simp [intOf]
      · have ha2 : bits .and .u64 ((x : Int) / 16) 15 = (d : Int) := ha
        clear ha
        go_wp2
        go_round
        case rel => exact ⟨15, by decide, rfl, by rw [show cutHex x 15 = z ++ [hexD d] from HS.out, ← HAPP.out]⟩
        case measure => simp [intOf]
      · have ha2 : bits .and .u64 ((x : Int)) 15 = (d : Int) := by have h := ha; rw [show ((16 ^ (15 - 15) : Nat) : Int) = 1 from rfl, Int.ediv_one] at h; exact h
        clear ha
        go_wp2
        go_round
        case rel => exact ⟨16, by decide, rfl, by rw [show cutHex x 16 = z ++ [hexD d] from HS.out, ← HAPP.out]⟩
        case measure => simp [intOf]
    · obtain rfl : k = 16 := by omega
      go_wp2
      go_ret
      exact ⟨by rw [HE.out]; rfl, rfl⟩
end Go.Proofs.YtgpjipgbighplaaDoor
