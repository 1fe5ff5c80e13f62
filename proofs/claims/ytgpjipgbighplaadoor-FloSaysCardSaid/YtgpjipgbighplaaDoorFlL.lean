/-
  FloEnds.
-/
import Derived.Test.YtgpjipgbighplaaDoorFlK
namespace Go.Proofs.YtgpjipgbighplaaDoor
open Go.RowKit Go.Shoal

theorem cmp_minus (x b : Nat) : (cmpW x b == -1) = decide (fkey x < fkey b) := by
  unfold cmpW
  rw [Bool.eq_iff_iff, beq_iff_eq, decide_eq_true_eq]
  split
  · exact ⟨fun _ => by assumption, fun _ => rfl⟩
  · split
    · exact ⟨fun h => absurd h (by decide), fun h => absurd h (by assumption)⟩
    · exact ⟨fun h => absurd h (by decide), fun h => absurd h (by assumption)⟩
theorem cmp_plus (x b : Nat) : (cmpW x b == 1) = decide (fkey b < fkey x) := by
  unfold cmpW
  rw [Bool.eq_iff_iff, beq_iff_eq, decide_eq_true_eq]
  split
  · exact ⟨fun h => absurd h (by decide), fun h => by omega⟩
  · split
    · exact ⟨fun _ => by assumption, fun _ => rfl⟩
    · exact ⟨fun h => absurd h (by decide), fun h => absurd h (by assumption)⟩
theorem cmp_lt (x b : Nat) : decide (cmpW x b < 0) = decide (fkey x < fkey b) := by
  unfold cmpW
  rw [Bool.eq_iff_iff, decide_eq_true_eq, decide_eq_true_eq]
  split
  · exact ⟨fun _ => by assumption, fun _ => by decide⟩
  · split
    · exact ⟨fun h => absurd h (by decide), fun h => absurd h (by assumption)⟩
    · exact ⟨fun h => absurd h (by decide), fun h => absurd h (by assumption)⟩
theorem cmp_gt (x b : Nat) : decide (0 < cmpW x b) = decide (fkey b < fkey x) := by
  unfold cmpW
  rw [Bool.eq_iff_iff, decide_eq_true_eq, decide_eq_true_eq]
  split
  · exact ⟨fun h => absurd h (by decide), fun h => by omega⟩
  · split
    · exact ⟨fun _ => by assumption, fun _ => by decide⟩
    · exact ⟨fun h => absurd h (by decide), fun h => absurd h (by assumption)⟩
theorem pickF_lt (way : Int) (l : List Nat) : ∀ b, b < B64 → (∀ x ∈ l, x < B64) → pickF way b l < B64 := by
  induction l with
  | nil => intro b hb _; exact hb
  | cons x l ih =>
    intro b hb h
    rw [pickF]
    split
    · show nanW < B64; decide
    · split
      · exact ih x (h x (List.mem_cons_self ..)) fun y hy => h y (List.mem_cons_of_mem _ hy)
      · exact ih b hb fun y hy => h y (List.mem_cons_of_mem _ hy)
theorem pickF_has (way : Int) (l : List Nat) : ∀ b, (∃ x ∈ l, isN x = true) → pickF way b l = nanW := by
  induction l with
  | nil => intro b ⟨x, hx, _⟩; cases hx
  | cons x l ih =>
    intro b ⟨y, hy, hn⟩
    rw [pickF]
    cases hx : isN x
    · rw [if_neg (by decide)]
      have : y ∈ l := by
        rcases List.mem_cons.1 hy with rfl | h
        · rw [hx] at hn; cases hn
        · exact h
      split
      · exact ih x ⟨y, this, hn⟩
      · exact ih b ⟨y, this, hn⟩
    · exact if_pos rfl
theorem pickF_min (l : List Nat) : ∀ b, (∀ x ∈ l, isN x = false) → (pickF (-1) b l = b ∨ pickF (-1) b l ∈ l) ∧ fkey (pickF (-1) b l) ≤ fkey b ∧ ∀ x ∈ l, fkey (pickF (-1) b l) ≤ fkey x := by
  induction l with
  | nil => intro b _; exact ⟨.inl rfl, Nat.le_refl _, fun x hx => by cases hx⟩
  | cons x l ih =>
    intro b h
    have hx := h x (List.mem_cons_self ..)
    have hr := fun y hy => h y (List.mem_cons_of_mem x hy)
    cases hc : (cmpW x b == -1)
    · rw [pickF_no _ _ _ _ hx hc]
      rw [cmp_minus] at hc
      have hc := of_decide_eq_false hc
      obtain ⟨h1, h2, h3⟩ := ih b hr
      exact ⟨h1.imp id (List.mem_cons_of_mem x), h2, fun y hy => (List.mem_cons.1 hy).elim (fun e => by rw [e]; omega) (h3 y)⟩
    · rw [pickF_yes _ _ _ _ hx hc]
      rw [cmp_minus] at hc
      have hc := of_decide_eq_true hc
      obtain ⟨h1, h2, h3⟩ := ih x hr
      exact ⟨.inr (h1.elim (fun e => by rw [e]; exact List.mem_cons_self ..) (List.mem_cons_of_mem x)), by omega, fun y hy => (List.mem_cons.1 hy).elim (fun e => by rw [e]; omega) (h3 y)⟩
theorem pickF_max (l : List Nat) : ∀ b, (∀ x ∈ l, isN x = false) → (pickF 1 b l = b ∨ pickF 1 b l ∈ l) ∧ fkey b ≤ fkey (pickF 1 b l) ∧ ∀ x ∈ l, fkey x ≤ fkey (pickF 1 b l) := by
  induction l with
  | nil => intro b _; exact ⟨.inl rfl, Nat.le_refl _, fun x hx => by cases hx⟩
  | cons x l ih =>
    intro b h
    have hx := h x (List.mem_cons_self ..)
    have hr := fun y hy => h y (List.mem_cons_of_mem x hy)
    cases hc : (cmpW x b == 1)
    · rw [pickF_no _ _ _ _ hx hc]
      rw [cmp_plus] at hc
      have hc := of_decide_eq_false hc
      obtain ⟨h1, h2, h3⟩ := ih b hr
      exact ⟨h1.imp id (List.mem_cons_of_mem x), h2, fun y hy => (List.mem_cons.1 hy).elim (fun e => by rw [e]; omega) (h3 y)⟩
    · rw [pickF_yes _ _ _ _ hx hc]
      rw [cmp_plus] at hc
      have hc := of_decide_eq_true hc
      obtain ⟨h1, h2, h3⟩ := ih x hr
      exact ⟨.inr (h1.elim (fun e => by rw [e]; exact List.mem_cons_self ..) (List.mem_cons_of_mem x)), by omega, fun y hy => (List.mem_cons.1 hy).elim (fun e => by rw [e]; omega) (h3 y)⟩
/-- The keys of numbers lie between those of the ends. -/
theorem key_range {x : Nat} (hx : x < B64) (hn : isN x = false) : fkey (INF + B63) ≤ fkey x ∧ fkey x ≤ fkey INF := by
  have h64 := b64_is
  have h63 := b63_is
  have hI := inf_is
  have e1 : fkey INF = INF + B63 := by decide
  have e2 : fkey (INF + B63) = B64 - 1 - (INF + B63) := by decide
  rw [e1, e2]
  unfold fkey
  unfold isN at hn ⊢
  have hn' := of_decide_eq_false hn
  rw [if_neg (by rw [decide_eq_true_eq]; exact hn')]
  split
  · rename_i hl
    rw [mod_low hl] at hn'
    omega
  · rename_i hl
    rw [mod_high (by omega) hx] at hn'
    omega
theorem any_same {l : List Nat} {r : Nat} (h : ∃ x ∈ l, fkey x = fkey r) : l.any (fun x => sameW x r) = true := by
  obtain ⟨x, hx, he⟩ := h
  exact List.any_eq_true.2 ⟨x, hx, beq_iff_eq.2 he⟩
theorem min_ends {l : List Nat} (h0 : l ≠ []) (hb : ∀ x ∈ l, x < B64) (hn : ∀ x ∈ l, isN x = false) : l.any (fun x => sameW x (minF l)) = true ∧ ∀ x ∈ l, decide (cmpW x (minF l) < 0) = false := by
  obtain ⟨h1, h2, h3⟩ := pickF_min l INF hn
  refine ⟨any_same ?_, fun x hx => ?_⟩
  · rcases h1 with h1 | h1
    · obtain ⟨x, hx⟩ := List.exists_mem_of_ne_nil l h0
      refine ⟨x, hx, ?_⟩
      have h4 := h3 x hx
      have h5 := (key_range (hb x hx) (hn x hx)).2
      show fkey x = fkey (pickF (-1) INF l)
      rw [h1] at h4 ⊢
      omega
    · exact ⟨_, h1, rfl⟩
  · rw [cmp_lt]
    exact decide_eq_false (by have := h3 x hx; show ¬ fkey x < fkey (pickF (-1) INF l); omega)
theorem max_ends {l : List Nat} (h0 : l ≠ []) (hb : ∀ x ∈ l, x < B64) (hn : ∀ x ∈ l, isN x = false) : l.any (fun x => sameW x (maxF l)) = true ∧ ∀ x ∈ l, decide (0 < cmpW x (maxF l)) = false := by
  obtain ⟨h1, h2, h3⟩ := pickF_max l (INF + B63) hn
  refine ⟨any_same ?_, fun x hx => ?_⟩
  · rcases h1 with h1 | h1
    · obtain ⟨x, hx⟩ := List.exists_mem_of_ne_nil l h0
      refine ⟨x, hx, ?_⟩
      have h4 := h3 x hx
      have h5 := (key_range (hb x hx) (hn x hx)).1
      show fkey x = fkey (pickF 1 (INF + B63) l)
      rw [h1] at h4 ⊢
      omega
    · exact ⟨_, h1, rfl⟩
  · rw [cmp_gt]
    exact decide_eq_false (by have := h3 x hx; show ¬ fkey (pickF 1 (INF + B63) l) < fkey x; omega)
theorem take_any (l : List Nat) (k : Nat) (h : k < l.length) (p : Nat → Bool) : (l.take (k + 1)).any p = ((l.take k).any p || p (l.getD k 0)) := by
  rw [List.take_succ_eq_append_getElem h, List.any_append, List.getD_eq_getElem?_getD, List.getElem?_eq_getElem h]
  simp
theorem ends_out (v : Value) (l : List Nat) (w : World) (hz : Flts w v l) (hT : Tab w) (h : l.length < 1 ∨ 40 < l.length) :
    Calls Tryd.prog 6 #[v] w fun e w' => e = .returned (.bool true) ∧ Mod (fun _ => False) w w' := by
  obtain ⟨A, c, rfl, hl, _⟩ := hz
  unfold maxLen at hl
  have HA := Lib.hid (awake_any w hT)
  clear hT
  by_cases h1 : l.length < 1
  · have t1 : decide ((l.length : Int) < 1) = true := decide_eq_true (by omega)
    go_enter Tryd.func6, Tryd.ntmps6
    go_wp2_with fail
    refine HA.out.mono ?_
    rintro e w1 ⟨rfl, hm⟩
    have HM := Lib.hid hm
    clear hm
    go_wp2
    go_ret
    exact ⟨rfl, HM.out⟩
  · have t1 : decide ((l.length : Int) < 1) = false := decide_eq_false (by omega)
    have t2 : decide ((40 : Int) < (l.length : Int)) = true := decide_eq_true (by omega)
    go_enter Tryd.func6, Tryd.ntmps6
    go_wp2_with fail
    refine HA.out.mono ?_
    rintro e w1 ⟨rfl, hm⟩
    have HM := Lib.hid hm
    clear hm
    go_wp2
    go_ret
    exact ⟨rfl, HM.out⟩
set_option maxRecDepth 100000 in
set_option maxHeartbeats 8000000 in
theorem ends_in (v : Value) (l : List Nat) (w : World) (hz : Flts w v l) (hT : Tab w) (h1 : 1 ≤ l.length) (h2 : l.length ≤ 40) :
    Calls Tryd.prog 6 #[v] w fun e w' => e = .returned (.bool true) ∧ Mod (fun _ => False) w w' := by
  have HV := Lib.hid hz
  obtain ⟨A, c, rfl, hl, hfit, hz⟩ := hz
  have HA := Lib.hid (awake_any w hT)
  have t1 : decide ((l.length : Int) < 1) = false := decide_eq_false (by omega)
  have t2 : decide ((40 : Int) < (l.length : Int)) = false := decide_eq_false (by omega)
  have hfit' : ∀ x ∈ l, x < B64 := fun x hx => by
    obtain ⟨i, hi, rfl⟩ := List.mem_iff_getElem.1 hx
    have := hfit i hi
    rw [List.getD_eq_getElem?_getD, List.getElem?_eq_getElem hi] at this
    exact this
  have HF := Lib.hid hfit
  have h0 : l ≠ [] := fun e => by rw [e] at h1; cases h1
  have HLB : Hid (minF l < B64) := pickF_lt _ _ _ (by decide) hfit'
  have HMB : Hid (maxF l < B64) := pickF_lt _ _ _ (by decide) hfit'
  have HNAN : Hid ((∃ x ∈ l, isN x = true) → classW (minF l) = 0 ∧ classW (maxF l) = 0) := fun h => by
    show classW (pickF _ _ _) = 0 ∧ classW (pickF _ _ _) = 0
    rw [pickF_has _ _ _ h, pickF_has _ _ _ h]
    exact ⟨by decide, by decide⟩
  have HE1 := Lib.hid (min_ends h0 hfit')
  have HE2 := Lib.hid (max_ends h0 hfit')
  clear hz hl hfit hfit' h0 hT
  generalize hmn : minF l = mn at *
  generalize hmx : maxF l = mx at *
  have HMN := Lib.hid hmn
  have HMX := Lib.hid hmx
  clear hmn hmx
  go_enter Tryd.func6, Tryd.ntmps6
  go_wp2_with fail
  refine HA.out.mono ?_
  rintro e w1 ⟨rfl, hm⟩
  have HM1 := Lib.hid hm
  have HV1 := Lib.hid (flts_below HV.out hm.none_below)
  have HZ : Hid (l = [] ∨ ∃ b o, A = some ⟨b, o, none⟩ ∧ b < w1.heap.size ∧ ∀ i j u, i < l.length → (fltCells (l.getD i default))[j]? = some u → w1.cell? ⟨b, o + i * 1 + j, none⟩ = some u) := by
    obtain ⟨A', c', he, _, _, hz⟩ := HV1.out
    cases he
    exact hz
  have HN := Lib.hid (min_any _ l w1 HV1.out)
  have HX := Lib.hid (max_any _ l w1 HV1.out)
  rw [HMN.out] at HN
  rw [HMX.out] at HX
  clear hm HA
  go_wp2_with fail
  refine HN.out.mono ?_
  rintro e w2 ⟨rfl, rfl⟩
  go_wp2_with fail
  refine HX.out.mono ?_
  rintro e w2 ⟨rfl, rfl⟩
  clear HN HX HV HV1
  go_wp2
  go_loop [5, 6, 7] (fun p q i => ∃ k : Nat, k ≤ l.length ∧ i = .int .i64 k ∧ p = .bool ((l.take k).any (fun x => sameW x mn)) ∧ q = .bool ((l.take k).any (fun x => sameW x mx)) ∧ Hid ((l.take k).all (fun x => !isN x) = true)) (fun _ _ i => l.length - (intOf i).toNat)
  case atStart => exact ⟨0, Nat.zero_le _, rfl, rfl, rfl, Lib.hid rfl⟩
  case round =>
    obtain ⟨k, hk, rfl, rfl, rfl, hall⟩ := hrel
    by_cases hlt : k < l.length
    · obtain ⟨bb, o, rfl, _, hc⟩ := ElemsIn.cell HZ.out (Mod.refl (fun _ => False) w1).none_below k hlt
      have hi : (k : Int) < l.length := by omega
      have hi0 : (0 : Int) ≤ (k : Int) := by omega
      have k0 := hc 0 (.float .f64 (l.getD k 0)) rfl
      rw [Nat.mul_one, Nat.add_zero] at k0
      have hx := HF.out k hlt
      have hx : l.getD k 0 < B64 := hx
      have HMEM : Hid (l.getD k 0 ∈ l) := by
        show _ ∈ l
        rw [List.getD_eq_getElem?_getD, List.getElem?_eq_getElem hlt]
        exact List.getElem_mem hlt
      have ha1 := take_any l k hlt (fun x => sameW x mn)
      have ha2 := take_any l k hlt (fun x => sameW x mx)
      have ha3 : (l.take (k + 1)).all (fun x => !isN x) = ((l.take k).all (fun x => !isN x) && !isN (l.getD k 0)) := by
        rw [List.take_succ_eq_append_getElem hlt, List.all_append, List.getD_eq_getElem?_getD, List.getElem?_eq_getElem hlt]
        simp
      rw [hall.out] at ha3
      obtain ⟨x, hxe⟩ : ∃ x, x = l.getD k 0 := ⟨_, rfl⟩
      rw [← hxe] at k0 hx ha1 ha2 ha3 HMEM
      have ha1 : (l.take (k + 1)).any (fun x => sameW x mn) = ((l.take k).any (fun x => sameW x mn) || sameW x mn) := ha1
      have ha2 : (l.take (k + 1)).any (fun x => sameW x mx) = ((l.take k).any (fun x => sameW x mx) || sameW x mx) := ha2
      have HA1 := Lib.hid ha1
      have HA2 := Lib.hid ha2
      have HA3 := Lib.hid ha3
      have H1 := Lib.hid (class_any x w1 hx)
      have H2 := Lib.hid (same_any x mn w1 hx HLB.out)
      have H3 := Lib.hid (same_any x mx w1 hx HMB.out)
      have kz := classW_zero x
      clear hc hxe ha1 ha2 ha3 hx
      cases hn : isN x
      · rw [hn] at kz
        have HALL : Hid ((l.take (k + 1)).all (fun x => !isN x) = true) := by show _ = _; rw [HA3.out, hn]; rfl
        clear hn HA3
        generalize classW x = cx at *
        generalize (l.take k).any (fun x => sameW x mn) = p at *
        generalize (l.take k).any (fun x => sameW x mx) = q at *
        generalize sameW x mn = s1 at *
        generalize sameW x mx = s2 at *
        cases p
        · go_wp2_with fail
          refine H1.out.mono ?_
          rintro e w2 ⟨rfl, rfl⟩
          go_wp2_with fail
          refine H2.out.mono ?_
          rintro e w2 ⟨rfl, rfl⟩
          cases q
          · go_wp2_with fail
            refine H3.out.mono ?_
            rintro e w2 ⟨rfl, rfl⟩
            go_wp2
            go_round
            case rel => exact ⟨k + 1, by omega, by go_num, by rw [HA1.out]; rfl, by rw [HA2.out]; rfl, HALL⟩
            case measure => simp [intOf]; omega
          · go_wp2
            go_round
            case rel => exact ⟨k + 1, by omega, by go_num, by rw [HA1.out]; rfl, by rw [HA2.out]; rfl, HALL⟩
            case measure => simp [intOf]; omega
        · go_wp2_with fail
          refine H1.out.mono ?_
          rintro e w2 ⟨rfl, rfl⟩
          cases q
          · go_wp2_with fail
            refine H3.out.mono ?_
            rintro e w2 ⟨rfl, rfl⟩
            go_wp2
            go_round
            case rel => exact ⟨k + 1, by omega, by go_num, by rw [HA1.out]; rfl, by rw [HA2.out]; rfl, HALL⟩
            case measure => simp [intOf]; omega
          · go_wp2
            go_round
            case rel => exact ⟨k + 1, by omega, by go_num, by rw [HA1.out]; rfl, by rw [HA2.out]; rfl, HALL⟩
            case measure => simp [intOf]; omega
      · rw [hn] at kz
        obtain ⟨c1, c2⟩ := HNAN.out ⟨x, HMEM.out, hn⟩
        have H4 := Lib.hid (class_any mn w1 HLB.out)
        have H5 := Lib.hid (class_any mx w1 HMB.out)
        rw [c1] at H4
        rw [c2] at H5
        clear hn HA3 HA1 HA2 c1 c2
        generalize classW x = cx at *
        generalize (l.take k).any (fun x => sameW x mn) = p at *
        generalize (l.take k).any (fun x => sameW x mx) = q at *
        go_wp2_with fail
        refine H1.out.mono ?_
        rintro e w2 ⟨rfl, rfl⟩
        go_wp2_with fail
        refine H4.out.mono ?_
        rintro e w2 ⟨rfl, rfl⟩
        go_wp2_with fail
        refine H5.out.mono ?_
        rintro e w2 ⟨rfl, rfl⟩
        go_wp2
        go_ret
        exact ⟨rfl, HM1.out⟩
    · obtain rfl : k = l.length := by omega
      have ti : decide (l.length < l.length) = false := decide_eq_false (by omega)
      have ha := hall.out
      rw [List.take_length] at ha ⊢
      have hnn : ∀ x ∈ l, isN x = false := fun x hx => by
        have := List.all_eq_true.1 ha x hx
        simpa using this
      have hs := HE1.out hnn
      have hg := HE2.out hnn
      rw [hs.1, hg.1]
      have HS := Lib.hid hs.2
      have HG := Lib.hid hg.2
      clear ha hall hnn hs hg HE1 HE2 HNAN HMN HMX
      go_wp2
      go_loop [8] (fun i => ∃ k : Nat, k ≤ l.length ∧ i = .int .i64 k) (fun i => l.length - (intOf i).toNat)
      case atStart => exact ⟨0, Nat.zero_le _, rfl⟩
      case round =>
        obtain ⟨k, hk, rfl⟩ := hrel
        by_cases hlt : k < l.length
        · obtain ⟨bb, o, rfl, _, hc⟩ := ElemsIn.cell HZ.out (Mod.refl (fun _ => False) w1).none_below k hlt
          have hi : (k : Int) < l.length := by omega
          have hi0 : (0 : Int) ≤ (k : Int) := by omega
          have k0 := hc 0 (.float .f64 (l.getD k 0)) rfl
          rw [Nat.mul_one, Nat.add_zero] at k0
          have hx := HF.out k hlt
          have hx : l.getD k 0 < B64 := hx
          have hmem : l.getD k 0 ∈ l := by
            rw [List.getD_eq_getElem?_getD, List.getElem?_eq_getElem hlt]
            exact List.getElem_mem hlt
          have q1 := HS.out _ hmem
          have q2 := HG.out _ hmem
          obtain ⟨x, hxe⟩ : ∃ x, x = l.getD k 0 := ⟨_, rfl⟩
          rw [← hxe] at k0 hx q1 q2
          have H1 := Lib.hid (cmp_any x mn w1 hx HLB.out)
          have H2 := Lib.hid (cmp_any x mx w1 hx HMB.out)
          clear hc hxe hx hmem
          generalize cmpW x mn = c1 at *
          generalize cmpW x mx = c2 at *
          go_wp2_with fail
          refine H1.out.mono ?_
          rintro e w2 ⟨rfl, rfl⟩
          go_wp2_with fail
          refine H2.out.mono ?_
          rintro e w2 ⟨rfl, rfl⟩
          go_wp2
          go_round
          case rel => exact ⟨k + 1, by omega, by go_num⟩
          case measure => simp [intOf]; omega
        · obtain rfl : k = l.length := by omega
          go_wp2
          go_ret
          exact ⟨rfl, HM1.out⟩
theorem flt_of {H : Type} {enc : TypeId × Value → H} {W : World} {base : Nat} {spare : Nat → Bool} {held : Bool} (n : Nat) (cs : List Value) (y : DataW H × List MemPlace) (hl : cs.length = 1)
    (h : DataW.trod enc Tryd.prog W base spare held n 22 cs = some y) : ∃ a : Nat, cs = fltCells a ∧ a < B64 := by
  match cs, hl with
  | [c], _ =>
    obtain ⟨s, rfl, hs⟩ := float_of_trod Tryd.underlying22 h
    exact ⟨s, rfl, hs⟩
set_option maxRecDepth 100000 in
theorem ends_walk {H : Type} {enc : TypeId × Value → H} {b0 : Nat} {d : DataW H} {ps : List MemPlace} (W : World) (hT : Tab W) (v : Value) (hok : Value.okWide Tryd.prog W .any b0 34 v)
    (h : DataW.Trod enc Tryd.prog W 0 (fun _ => true) true 34 v d ps) : Calls Tryd.prog 6 #[v] W fun e w' => e = .returned (.bool true) ∧ Below W.heap.size W w' := by
  obtain ⟨l, hz⟩ := open_rows (C := 1) (cells := fltCells) (fit := fun b => b < B64) Tryd.underlying34 (show Tryd.prog.cellsOf 22 = 1 by kernel_rfl) (by decide) flt_of hok h
  by_cases h : l.length < 1 ∨ 40 < l.length
  · exact (ends_out v l W hz hT h).mono fun _ _ ⟨x, y⟩ => ⟨x, y.none_below⟩
  · exact (ends_in v l W hz hT (by omega) (by omega)).mono fun _ _ ⟨x, y⟩ => ⟨x, y.none_below⟩
end Go.Proofs.YtgpjipgbighplaaDoor
