/-
  flo.Parse, where the text has a form; FloBack's plain law.
-/
import Derived.Test.YtgpjipgbighplaaDoorFlM
namespace Go.Proofs.YtgpjipgbighplaaDoor
open Go.RowKit Go.Shoal

theorem pu_ok (t : ByteArray) (n : Nat) (hne : t.size ≠ 0) (hmax : t.size ≤ 9223372036854775806) (hn : puX 0 t.data.toList = .ok n) (w : World) :
    Calls Tryd.prog 39 #[.string t, .int .i64 16, .int .i64 64] w fun e w' => e = .returned (.tuple #[.int .u64 n, .nilIface]) ∧ Mod (fun _ => False) w w' := by
  have HI := Lib.hid (ipu_any t hne hmax w)
  rw [hn] at HI
  unfold Lib.uintTuple at HI
  have HB := Lib.hid (bytes_mod w t)
  generalize Lib.bytesWorld w 5 t = w1 at *
  clear hn hne
  go_enter Tryd.func39, Tryd.ntmps39
  go_wp2_with fail
  refine HI.out.mono ?_
  rintro e w2 ⟨rfl, rfl⟩
  go_wp2
  go_ret2
  exact ⟨rfl, HB.out⟩

def valX (acc : Nat) (D : List UInt8) : Nat := D.foldl (fun a c => a * 16 + digX c) acc
theorem valX_le (D : List UInt8) : ∀ acc, acc ≤ valX acc D := by
  induction D with
  | nil => intro acc; exact Nat.le_refl _
  | cons c D ih => intro acc; have := ih (acc * 16 + digX c); show acc ≤ valX (acc * 16 + digX c) D; omega
theorem puX_val (D : List UInt8) : ∀ acc, (∀ c ∈ D, digX c < 16) → valX acc D < 18446744073709551616 → puX acc D = .ok (valX acc D) := by
  induction D with
  | nil => intro acc _ _; rfl
  | cons c D ih =>
    intro acc h hv
    have hc := h c (List.mem_cons_self ..)
    have hv' : valX (acc * 16 + digX c) D < 18446744073709551616 := hv
    have hle := valX_le D (acc * 16 + digX c)
    rw [puX, if_neg (by omega), if_neg (by omega)]
    exact ih _ (fun x hx => h x (List.mem_cons_of_mem _ hx)) hv'
theorem dig_hex (d : Nat) (h : d < 16) : digX (hexD d) = d := by
  have : ∀ d : Fin 16, digX (hexD d.1) = d.1 := by decide
  exact this ⟨d, h⟩
theorem hexF_val (n : Nat) : ∀ (v : Nat) (ds : List UInt8), v < 16 ^ (n + 1) → valX 0 (hexF (n + 1) v ds) = valX v ds := by
  induction n with
  | zero =>
    intro v ds h
    rw [hexF, if_pos (by omega)]
    show valX (0 * 16 + digX (hexD v)) ds = _
    rw [dig_hex v (by omega), Nat.zero_mul, Nat.zero_add]
  | succ n ih =>
    intro v ds h
    rw [hexF]
    by_cases hv : v < 16
    · rw [if_pos hv]
      show valX (0 * 16 + digX (hexD v)) ds = _
      rw [dig_hex v hv, Nat.zero_mul, Nat.zero_add]
    · rw [if_neg hv, ih _ _ (hex_lt h)]
      show valX (v / 16 * 16 + digX (hexD (v % 16))) ds = _
      rw [dig_hex _ (Nat.mod_lt _ (by decide)), show v / 16 * 16 + v % 16 = v by omega]
theorem hexF_digs (n : Nat) : ∀ (v : Nat) (ds : List UInt8), (∀ c ∈ ds, digX c < 16) → ∀ c ∈ hexF n v ds, digX c < 16 := by
  induction n with
  | zero => intro v ds h; exact h
  | succ n ih =>
    intro v ds h
    have hx : ∀ d, d < 16 → ∀ c ∈ hexD d :: ds, digX c < 16 := fun d hd c hc => (List.mem_cons.1 hc).elim (fun e => by rw [e, dig_hex d hd]; exact hd) (h c)
    rw [hexF]
    split
    · exact hx v (by assumption)
    · exact ih _ _ (hx _ (Nat.mod_lt _ (by decide)))
def hex16 (u : Nat) : List UInt8 := List.replicate (16 - (hexs u).length) 48 ++ hexs u
theorem val_zeros (m : Nat) (D : List UInt8) : valX 0 (List.replicate m 48 ++ D) = valX 0 D := by
  induction m with
  | zero => rfl
  | succ m ih => rw [List.replicate_succ, List.cons_append]; exact ih
theorem pu_hex (u : Nat) (hu : u < B64) : puX 0 (hex16 u) = .ok u := by
  have h1 : valX 0 (hex16 u) = u := by
    unfold hex16 hexs
    rw [val_zeros]
    exact hexF_val 15 u [] hu
  have h2 := puX_val (hex16 u) 0 (fun c hc => by
    rcases List.mem_append.1 hc with h | h
    · rw [List.eq_of_mem_replicate h]; decide
    · exact hexF_digs 16 u [] (fun _ h => by cases h) c h) (by rw [h1, ← b64_is]; exact hu)
  rw [h1] at h2
  exact h2
theorem hex16_len (u : Nat) : (hex16 u).length = 16 := by
  unfold hex16
  rw [List.length_append, List.length_replicate]
  have := hexs_len u
  omega
set_option maxRecDepth 100000 in
set_option maxHeartbeats 2000000 in
/-- A text of sixteen signs that reads as a number. -/
theorem parse_ok (s : List UInt8) (n : Nat) (hl : s.length = 16) (hn : n < B64) (hp : puX 0 s = .ok n) (w : World) (hT : Tab w) :
    Calls Tryd.prog 20 #[.string ⟨s.toArray⟩] w fun e w' => e = .returned (pairF (if showW n = s then (n, true) else (0, false))) ∧ Mod (fun _ => False) w w' := by
  have H1 := Lib.hid (nan_any w)
  have H2 := Lib.hid (pu_ok ⟨s.toArray⟩ n (by show s.length ≠ 0; omega) (by show s.length ≤ _; omega) hp w)
  have HS := Lib.hid (fun w' => show_any n hn w')
  have HT := Lib.hid hT
  have hne : ∀ l : List UInt8, l.length < 16 → (s == l) = false := fun l hl' => by
    rw [beq_eq_false_iff_ne]
    intro e
    rw [e] at hl
    omega
  have e1 := hne [110, 97, 110] (by decide)
  have e2 := hne [105, 110, 102] (by decide)
  have e3 := hne [45, 105, 110, 102] (by decide)
  generalize hr : (if showW n = s then (n, true) else (0, false) : Nat × Bool) = r
  have HR := Lib.hid hr
  clear hT hne hp hr
  go_enter Tryd.func20, Tryd.ntmps20
  go_wp2_with fail
  refine H1.out.mono ?_
  rintro e w1 ⟨rfl, rfl⟩
  go_wp2_with fail
  refine H2.out.mono ?_
  rintro e w1 ⟨rfl, hm⟩
  have HM1 := Lib.hid hm
  have HS1 := Lib.hid (HS.out w1 (HT.out.mod hm (fun x => x)))
  clear hm H1 H2 HS
  go_wp2_with fail
  refine HS1.out.mono ?_
  rintro e w2 ⟨rfl, hm⟩
  have HM2 := Lib.hid (HM1.out.trans hm)
  clear hm HS1
  by_cases hq : showW n = s
  · have q1 : (showW n == s) = true := beq_iff_eq.2 hq
    have HRR : Hid (r = (n, true)) := by show _ = _; rw [← HR.out, if_pos hq]
    clear hq
    go_wp2
    go_ret2
    exact ⟨by rw [HRR.out]; rfl, HM2.out⟩
  · have q1 : (showW n == s) = false := beq_eq_false_iff_ne.2 hq
    have HRR : Hid (r = (0, false)) := by show _ = _; rw [← HR.out, if_neg hq]
    clear hq
    go_wp2
    go_ret2
    exact ⟨by rw [HRR.out]; rfl, HM2.out⟩
set_option maxHeartbeats 1000000 in
theorem parse_nan (w : World) : Calls Tryd.prog 20 #[.string ⟨#[110, 97, 110]⟩] w fun e w' => e = .returned (pairF (nanW, true)) ∧ w = w' := by
  have H1 := Lib.hid (nan_any w)
  go_enter Tryd.func20, Tryd.ntmps20
  go_wp2_with fail
  refine H1.out.mono ?_
  rintro e w1 ⟨rfl, rfl⟩
  go_wp2
  go_ret2
  exact ⟨rfl, rfl⟩
theorem parse_inf (w : World) : Calls Tryd.prog 20 #[.string ⟨#[105, 110, 102]⟩] w fun e w' => e = .returned (pairF (INF, true)) ∧ w = w' := by
  have H1 := Lib.hid (nan_any w)
  have H2 := Lib.hid (inf_any w)
  go_enter Tryd.func20, Tryd.ntmps20
  go_wp2_with fail
  refine H1.out.mono ?_
  rintro e w1 ⟨rfl, rfl⟩
  go_wp2_with fail
  refine H2.out.mono ?_
  rintro e w1 ⟨rfl, rfl⟩
  go_wp2
  go_ret2
  exact ⟨rfl, rfl⟩
theorem parse_minf (w : World) : Calls Tryd.prog 20 #[.string ⟨#[45, 105, 110, 102]⟩] w fun e w' => e = .returned (pairF (INF + B63, true)) ∧ w = w' := by
  have H1 := Lib.hid (nan_any w)
  have H2 := Lib.hid (minf_any w)
  go_enter Tryd.func20, Tryd.ntmps20
  go_wp2_with fail
  refine H1.out.mono ?_
  rintro e w1 ⟨rfl, rfl⟩
  go_wp2_with fail
  refine H2.out.mono ?_
  rintro e w1 ⟨rfl, rfl⟩
  go_wp2
  go_ret2
  exact ⟨rfl, rfl⟩
/-- What a number's text tells. -/
theorem parse_show (a : Nat) (ha : a < B64) (w : World) (hT : Tab w) : Calls Tryd.prog 20 #[.string ⟨(showW a).toArray⟩] w fun e w' => e = .returned (pairF (if isN a then nanW else a, true)) ∧ Mod (fun _ => False) w w' := by
  cases hn : isN a
  · by_cases h1 : (a == INF) = true
    · have e1 : showW a = [105, 110, 102] := by unfold showW; rw [hn, if_neg (by decide), if_pos h1]
      rw [e1, if_neg (by decide), beq_iff_eq.1 h1]
      exact (parse_inf w).mono fun _ _ ⟨x, y⟩ => ⟨x, y ▸ Mod.refl _ _⟩
    · by_cases h2 : (a == INF + B63) = true
      · have e1 : showW a = [45, 105, 110, 102] := by unfold showW; rw [hn, if_neg (by decide), if_neg h1, if_pos h2]
        rw [e1, if_neg (by decide), beq_iff_eq.1 h2]
        exact (parse_minf w).mono fun _ _ ⟨x, y⟩ => ⟨x, y ▸ Mod.refl _ _⟩
      · have e1 : showW a = hex16 a := by unfold showW; rw [hn, if_neg (by decide), if_neg h1, if_neg h2]; rfl
        have h := parse_ok (showW a) a (by rw [e1]; exact hex16_len a) ha (by rw [e1]; exact pu_hex a ha) w hT
        rw [if_pos rfl] at h
        rw [if_neg (by decide)]
        exact h
  · have e1 : showW a = [110, 97, 110] := by unfold showW; rw [hn, if_pos rfl]
    rw [e1, if_pos rfl]
    exact (parse_nan w).mono fun _ _ ⟨x, y⟩ => ⟨x, y ▸ Mod.refl _ _⟩
theorem key_bits {a : Nat} (ha : a < B64) (hn : isN a = false) : keyBits (fkey a) = a := by
  have h64 := b64_is
  have h63 := b63_is
  have e : fkey a = if a < B63 then a + B63 else B64 - 1 - a := by unfold fkey; rw [hn, if_neg (show ¬ (false = true) by decide)]
  rw [e]
  unfold keyBits
  by_cases hl : a < B63
  · rw [if_pos hl, if_neg (show ¬ a + B63 < B63 by omega)]; omega
  · rw [if_neg hl, if_pos (show B64 - 1 - a < B63 by omega)]; omega
theorem of_fkey {a : Nat} (ha : a < B64) : (ofW (fkey a)).2 = true := by
  unfold ofW
  by_cases h : fkey a = 18446744073709551615
  · rw [if_pos h]
  · have hn : isN a = false := by
      cases hn : isN a
      · rfl
      · exact absurd (fkey_nan hn) h
    rw [if_neg h, key_bits ha hn, hn]
    rfl
theorem same_nan {a : Nat} : sameW (if isN a then nanW else a) a = true := by
  unfold sameW
  rw [beq_iff_eq]
  cases hn : isN a
  · rw [if_neg (by decide)]
  · rw [if_pos rfl, fkey_nan hn]
    decide
set_option maxRecDepth 100000 in
set_option maxHeartbeats 8000000 in
theorem back_any (a k : Nat) (ha : a < B64) (hk : k < B64) (w : World) (hT : Tab w) : Calls Tryd.prog 7 #[.float .f64 a, .int .u64 k] w fun e w' => e = .returned (.bool true) ∧ Mod (fun _ => False) w w' := by
  have HA := Lib.hid (awake_any w hT)
  have H1 := Lib.hid (fun w => key_any a w ha)
  have H2 := Lib.hid (fun w => of_any (fkey a) w (fkey_lt ha))
  have H3 := Lib.hid (fun w => show_any a ha w)
  have H4 := Lib.hid (fun w => parse_show a ha w)
  obtain ⟨x, hx⟩ : ∃ x, ofW (fkey a) = (x, true) := ⟨(ofW (fkey a)).1, by rw [← of_fkey ha]⟩
  have hxx := of_key (fkey_lt ha) (of_fkey ha)
  rw [hx] at hxx H2
  have s1 : sameW x a = true := beq_iff_eq.2 hxx.1
  have H5 := Lib.hid (fun w => same_any x a w hxx.2 ha)
  rw [s1] at H5
  have bY : (if isN a then nanW else a) < B64 := by split; · show nanW < B64; decide
                                                    · exact ha
  have H6 := Lib.hid (fun w => same_any (if isN a then nanW else a) a w bY ha)
  rw [same_nan] at H6
  generalize (if isN a then nanW else a) = y at *
  have H7 := Lib.hid (fun w => of_any k w hk)
  have HK := Lib.hid (of_key hk)
  have HT := Lib.hid hT
  unfold pairF at H2 H4 H7
  clear hx hxx s1 bY ha hT
  generalize fkey a = ka at *
  generalize showW a = s at *
  generalize ofW k = r at *
  obtain ⟨z, r⟩ := r
  have HKK : Hid (r = true → fkey z = k ∧ z < B64) := HK.out
  clear HK
  go_enter Tryd.func7, Tryd.ntmps7
  go_wp2_with fail
  refine HA.out.mono ?_
  rintro e w1 ⟨rfl, hm⟩
  have HM := Lib.hid hm
  have HT1 := Lib.hid (HT.out.mod hm (fun x => x))
  clear hm HA
  go_wp2_with fail
  refine (H1.out _).mono ?_
  rintro e w2 ⟨rfl, rfl⟩
  go_wp2_with fail
  refine (H2.out _).mono ?_
  rintro e w2 ⟨rfl, rfl⟩
  go_wp2_with fail
  refine (H3.out _ HT1.out).mono ?_
  rintro e w2 ⟨rfl, hm⟩
  have HM2 := Lib.hid (HM.out.trans hm)
  have HT2 := Lib.hid (HT1.out.mod hm (fun x => x))
  clear hm
  go_wp2_with fail
  refine (H4.out _ HT2.out).mono ?_
  rintro e w3 ⟨rfl, hm⟩
  have HM3 := Lib.hid (HM2.out.trans hm)
  clear hm
  go_wp2_with fail
  refine (H5.out _).mono ?_
  rintro e w2 ⟨rfl, rfl⟩
  go_wp2_with fail
  refine (H6.out _).mono ?_
  rintro e w2 ⟨rfl, rfl⟩
  go_wp2_with fail
  refine (H7.out _).mono ?_
  rintro e w2 ⟨rfl, rfl⟩
  cases r
  · go_wp2
    go_ret
    exact ⟨rfl, HM3.out⟩
  · obtain ⟨e1, e2⟩ := HKK.out rfl
    have H8 := Lib.hid (fun w => key_any z w e2)
    rw [e1] at H8
    clear e1 e2 HKK
    go_wp2_with fail
    refine (H8.out _).mono ?_
    rintro e w2 ⟨rfl, rfl⟩
    go_wp2
    go_ret
    exact ⟨ret_bool (by simp), HM3.out⟩
theorem laid_back {W : World} (h : laidMetH Tryd.prog Rows.floBackRow.laid W) : Tab W := tab_one (h.filter (fun x => x.1 == "math/bits.deBruijn64tab"))
theorem laid_known {W : World} (h : laidMetH Tryd.prog Rows.floKnownRow.laid W) : Tab W := tab_one (h.filter (fun x => x.1 == "math/bits.deBruijn64tab"))
theorem back_walk (W : World) (hT : Tab W) (a : Nat) (ha : (Lit.float .f64 a).wf = true) (k : Int) (hk : (Lit.int .u64 k).wf = true) :
    Calls Tryd.prog 7 #[.float .f64 a, .int .u64 k] W fun e w' => e = .returned (.bool true) ∧ Below W.heap.size W w' := by
  have h64 := b64_is
  obtain ⟨h1, h2⟩ := wf_u64 hk
  obtain ⟨k, rfl⟩ := Int.eq_ofNat_of_zero_le h1
  exact (back_any a k (wf_f64 ha) (by omega) W hT).mono fun _ _ ⟨x, y⟩ => ⟨x, y.none_below⟩
end Go.Proofs.YtgpjipgbighplaaDoor
