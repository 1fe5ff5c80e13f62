/-
  PastChain.
-/
import Derived.Test.YteicceikaecfcaaPastN
import Derived.Test.YteicceikaecfcaaPastS
namespace Go.Proofs.Yteicceikaecfcaa
open Go.RowKit Go.Shoal Go.Maps

/-- A slice of names of the law's own. -/
def Own (w : World) (B : Nat) (s : Pa) (v : Value) (L : List (Nat × Nat)) (wr : World) : Prop := Names wr v L ∧ ∀ q, v.ownBlock = some q → ¬ Foot B s q ∧ w.heap.size ≤ q
theorem Own.quiet {w wr w' : World} {B : Nat} {s : Pa} {v : Value} {L : List (Nat × Nat)} (h : Own w B s v L wr) (hm : Mod (fun _ => False) wr w') : Own w B s v L w' := ⟨h.1.quiet hm, h.2⟩
theorem Own.held {w wr w' : World} {B : Nat} {s s' : Pa} {v : Value} {L : List (Nat × Nat)} (h : Own w B s v L wr) (hh : ∀ q o, Held q o B s wr → Held q o B s' w') : Own w B s' v L w' := by
  refine ⟨RowOf.keep h.1 (fun b hb => ?_), fun q hq => ?_⟩
  · obtain ⟨cur, hc⟩ := RowOf.block h.1 hb
    exact (hh b _ ⟨hc, (h.2 b hb).1⟩).here.trans hc.symm
  · obtain ⟨cur, hc⟩ := RowOf.block h.1 hq
    exact ⟨(hh q _ ⟨hc, (h.2 q hq).1⟩).away, (h.2 q hq).2⟩
theorem own_append {w wr w1 w2 : World} {B : Nat} {s : Pa} {v v2 : Value} {L : List (Nat × Nat)} {p : Nat × Nat} (hL : Lives w B s wr) (h : Own w B s v L wr) (hm : Mod (fun _ => False) wr w1) (hg : w1.grownBy w2 v.ownBlock)
    (hrow : RowOf w2 34 2 v2 (L.length + 1) (L.flatMap nameCells ++ nameCells p)) (hat : v2.ownBlock = v.ownBlock ∨ v2.ownBlock = some w1.heap.size) : Lives w B s w2 ∧ Own w B s v2 (L ++ [p]) w2 := by
  have h1 := h.quiet hm
  have hL1 := hL.quiet hm
  have hS : Mod (fun b => v.ownBlock = some b) w1 w2 := Mod.of_grown (S := fun b => v.ownBlock = some b) hg (fun k e _ => e)
  refine ⟨hL1.other hS (fun b hb => (h.2 b hb).1) (fun b hb => (h.2 b hb).2), ?_, fun q hq => ?_⟩
  · unfold Names
    rw [List.length_append, List.flatMap_append]
    simpa using hrow
  · rcases hat with e | e
    · exact h.2 q (e ▸ hq)
    · rw [e] at hq
      cases hq
      exact ⟨fun hf => by have := hL1.at'.foot_lt hf; omega, hL1.low.size⟩
/-- While messages are sent and answered. -/
def ChainRel (w : World) (B last k : Nat) (v : Value) (wr : World) : Prop := ∃ s, Lives w B s wr ∧ ChainOk s last k ∧ Own w B s v s.allNames wr
theorem look_can {w wr : World} {B last many i k : Nat} {s : Pa} {v : Value} {m : Ms} (h : LookRel w B s v wr) (he : ChainEnd s last many i) (h1 : 2 ≤ last) (h2 : last < 8) (hk : s.all[k]? = some m) (y : Bool) (hy : decide (k = i) = y) :
    ∀ W, Mod (fun _ => False) wr W → Calls Try.prog 15 #[.pointer (some ⟨B, 0, none⟩), .int .i64 (last : Int), .agg #[.int .i64 (m.frm : Int), .int .u64 (m.num : Int)]] W fun e w' => e = .returned (.bool y) ∧ Mod (fun _ => False) wr w' := fun W hm => by
  subst hy
  have hc := can_any B s last k m W (h.1.quiet hm).at' (by rw [he.ms.n]; omega) hk
  rw [he.can h.1.at'.ok h1 h2 hk] at hc
  exact hc.mono fun _ _ ⟨a, b⟩ => ⟨a, hm.trans b⟩
set_option maxRecDepth 100000 in
set_option maxHeartbeats 8000000 in
theorem chain_in (last many : Nat) (w : World) (h1 : 2 ≤ last) (h2 : last < 8) (h3 : 1 ≤ many) (h4 : many ≤ 12) :
    Calls Try.prog 4 #[.int .i64 ((last : Int) + 1), .int .i64 many] w fun e w' => e = .returned (.bool true) ∧ Below w.heap.size w w' := by
  have HA := Lib.hid (awake_any w)
  have HNew : Hid (∀ w, Calls Try.prog 9 #[.int .i64 ((last : Int) + 1)] w fun e w' => ∃ B kB cB tB hB kb, e = .returned (.tuple #[.pointer (some ⟨B, 0, none⟩), .int .i64 0]) ∧ Lives w B (Pa.born (last + 1) kB cB tB hB kb) w') := fun w => by
    have h := lives_new (last + 1) w (by omega) (by omega)
    rw [show (((last + 1 : Nat)) : Int) = (last : Int) + 1 by omega] at h
    exact h
  have i1 : (2 : Int) ≤ (last : Int) := by omega
  have i2 : (last : Int) < 8 := by omega
  have i3 : (1 : Int) ≤ (many : Int) := by omega
  have i4 : (many : Int) ≤ 12 := by omega
  go_enter Try.func4, Try.ntmps4
  go_wp2_with fail
  refine HA.out.mono ?_
  rintro e w1 ⟨rfl, hb⟩
  have HB1 := Lib.hid hb
  clear hb HA
  go_wp2_with fail
  refine (HNew.out _).mono ?_
  rintro e w2 ⟨B, kB, cB, tB, hB, kb, rfl, hL⟩
  have H0 : Hid (ChainRel w B last 0 (.slice none 0 0) w2) := ⟨_, hL.base HB1.out, ⟨⟨rfl, fun k m hk => (by cases hk), fun k m j hk => (by cases hk)⟩, rfl, fun j => (by simp [Pa.born]), rfl⟩, RowOf.nil _ _ _, fun q hq => (by cases hq)⟩
  clear hL HNew HB1
  go_wp2
  go_loopw [8, 9] (fun v i wr => ∃ k : Nat, k ≤ many ∧ i = .int .i64 k ∧ Hid (ChainRel w B last k v wr)) (fun _ i _ => many - (intOf i).toNat)
  case atStart => exact ⟨0, Nat.zero_le _, rfl, H0⟩
  case round =>
    obtain ⟨k, hk, rfl, hR⟩ := hrel
    by_cases hlt : k < many
    · obtain ⟨s, hs1, hs2, hs3⟩ := hR.out
      have hi0 : (0 : Int) ≤ (k : Int) := by omega
      have hi1 : (k : Int) < (many : Int) := by omega
      have hm0 : k % last < last := Nat.mod_lt _ (by omega)
      have hm1 : (k + 1) % last < last := Nat.mod_lt _ (by omega)
      have hal : s.all.length < 1000 := by rw [hs2.len]; omega
      have HGood := Lib.hid (chain_good hs2 h1 h2)
      have HOpen : Hid (∀ M av, (s.sent (k % last) (chainTo last k) M av).open ⟨k % last, cnt s.all (k % last) + 1, chainTo last k, s.knows (k % last), M⟩ k ((k + 1) % last) = true) := fun M av => chain_open hs1.at'.ok hs2 h1 h2
      have HStep : Hid (∀ M av v, ChainOk ((s.sent (k % last) (chainTo last k) M av).took ⟨k % last, cnt s.all (k % last) + 1, chainTo last k, s.knows (k % last), M⟩ k ((k + 1) % last) v) last (k + 1)) := fun M av v => ChainOk.step hs1.at'.ok hs2 h1
      have HGet : Hid (∀ M av, (s.sent (k % last) (chainTo last k) M av).all[k]? = some ⟨k % last, cnt s.all (k % last) + 1, chainTo last k, s.knows (k % last), M⟩) := fun M av => chain_get hs2
      have HNames : Hid (∀ M av v, ((s.sent (k % last) (chainTo last k) M av).took ⟨k % last, cnt s.all (k % last) + 1, chainTo last k, s.knows (k % last), M⟩ k ((k + 1) % last) v).allNames = s.allNames ++ [(k % last, cnt s.all (k % last) + 1)]) := fun M av v => by
        show (s.all ++ [_]).map _ = _
        rw [List.map_append]; rfl
      have HOf : Hid (∀ w : World, Calls Try.prog 14 #[.slice (some ⟨w.heap.size, 0, none⟩) 2 2] (w.alloc (.cells #[.int .i64 (((k + 1) % last : Nat) : Int), .int .i64 (last : Int)] 3)) fun e w' => e = .returned (.int .u64 ((chainTo last k : Nat) : Int)) ∧ (w.alloc (.cells #[.int .i64 (((k + 1) % last : Nat) : Int), .int .i64 (last : Int)] 3)) = w') := fun w => of_two _ _ w
      have HLen : Hid (s.allNames.length = k) := by show _ = _; unfold Pa.allNames; rw [List.length_map, hs2.len]
      have HSN := Lib.hid hs2.ms.n
      have HL := Lib.hid hs1
      have HOwn := Lib.hid hs3
      have e0 : (k : Int) % (last : Int) = ((k % last : Nat) : Int) := (Int.natCast_emod k last).symm
      have e1 : ((k : Int) + 1) % (last : Int) = (((k + 1) % last : Nat) : Int) := by
        have h := Int.natCast_emod (k + 1) last
        rw [show (((k + 1 : Nat)) : Int) = (k : Int) + 1 by omega] at h
        exact h.symm
      have HE0 := Lib.hid e0
      have HE1 := Lib.hid e1
      have HT0 : Hid ((k : Int).tmod (last : Int) = ((k % last : Nat) : Int)) := by show _ = _; rw [Int.tmod_eq_emod_of_nonneg (by omega)]; exact e0
      have HT1 : Hid (((k : Int) + 1).tmod (last : Int) = (((k + 1) % last : Nat) : Int)) := by show _ = _; rw [Int.tmod_eq_emod_of_nonneg (by omega)]; exact e1
      have HWr : Hid (IntKind.i64.wrap ((k : Int) + 1) = (k : Int) + 1) := IntWalk.i64_in _ (by omega)
      clear hR hs1 hs2 hs3 e0 e1
      have HTlt := Lib.hid (chainTo_lt last k)
      generalize k % last = r0 at *
      generalize (k + 1) % last = r1 at *
      generalize chainTo last k = t at *
      obtain ⟨x, hx⟩ : ∃ x, x = cnt s.all r0 + 1 := ⟨_, rfl⟩
      rw [← hx] at HOpen HStep HGet HNames
      have HX := Lib.hid hx
      clear hx
      go_wp2
      have ht0 := HT0.out
      have ht1 := HT1.out
      have hd0 := HE0.out
      have hd1 := HE1.out
      have hwr := HWr.out
      go_quiet (fail)
      clear ht0 ht1 hd0 hd1 hwr
      have HLq := Lib.hid (HL.out.quiet ((Mod.refl (fun _ => False) wr).drewN nq))
      have HOq := Lib.hid (HOwn.out.quiet ((Mod.refl (fun _ => False) wr).drewN nq))
      generalize wr.drewN nq = W at *
      go_wp2_with fail
      refine (HOf.out _).mono ?_
      rintro e u ⟨rfl, rfl⟩
      have HS := Lib.hid (lives_send (HLq.out.alloc (.cells #[.int .i64 (r1 : Int), .int .i64 (last : Int)] 3)) r0 t (by rw [HSN.out]; omega) (HTlt.out) HGood.out hal)
      go_wp2_with fail
      refine HS.out.mono ?_
      rintro e W2 ⟨M, av, rfl, hL2, hh2, _⟩
      rw [← HX.out]
      have HL2 := Lib.hid (hL2.alloc (.cells #[.int .i64 (r0 : Int), .int .u64 (x : Int)] 34))
      have HO2 := Lib.hid (((HOq.out.quiet ((Mod.refl _ _).alloc _)).held hh2).quiet ((Mod.refl _ W2).alloc (.cells #[.int .i64 (r0 : Int), .int .u64 (x : Int)] 34)))
      have HB2 := Lib.hid (Held.new hL2 (.cells #[.int .i64 (r0 : Int), .int .u64 (x : Int)] 34))
      obtain ⟨y0, y1⟩ := two_cells HB2.out.here
      have HTk := Lib.hid (lives_take HL2.out r1 k _ (by show r1 < s.n; rw [HSN.out]; omega) (HGet.out M av) (HOpen.out M av))
      clear hL2 hh2 HS HLq HOq HL HOwn
      go_wp2_with fail
      refine HTk.out.mono ?_
      rintro e W3 ⟨tv, rfl, hL3, hh3, _⟩
      have HO3 := Lib.hid (HO2.out.held hh3)
      have HL3 := Lib.hid hL3
      obtain ⟨y0, y1⟩ := two_cells (hh3 _ _ HB2.out).here
      have hz3 := (hh3 _ _ HB2.out).lt
      clear hL3 hh3 HTk HO2 HL2 HB2
      obtain ⟨i0, hii, hz0, hz1, hz2⟩ := info_parts Try.infoID
      have hrow0 := HO3.out.1
      unfold Names at hrow0
      have HRow := Lib.hid hrow0
      have hlk := HLen.out
      have HLk := Lib.hid hlk
      clear hrow0 hlk
      go_wp2_with (at_builtin; refine wpList_append_row (by rfl) _ _ 28 (by rfl) i0 (.agg #[.int .i64 0, .int .u64 0]) 16 Try.underlying28 hii hz0 hz1 hz2 (by rfl) (by omega) (by rfl) (HRow.out.alloc _) (nameCells_one _) _ 1 [.int .i64 (r0 : Int), .int .u64 (x : Int)] (by rfl) (src_two _ _ _ _ (by simp [Value.oneCell'])) (by have := HLk.out; unfold maxLen; omega) (by have := HLk.out; omega) ?_)
      intro v4 W4 hrow hgrow hat
      have HN : Hid (ChainRel w B last (k + 1) v4 W4) := by
        obtain ⟨g1, g2⟩ := own_append (p := (r0, x)) HL3.out HO3.out ((Mod.refl (fun _ => False) W3).alloc (.cells #[.int .i64 (r0 : Int), .int .u64 (x : Int)] 34)) hgrow hrow (by simpa using hat)
        exact ⟨_, g1, HStep.out M av tv, by rw [HNames.out M av tv]; exact g2⟩
      clear hrow hgrow hat hii hz0 hz1 hz2
      go_wp2
      go_roundw
      case rel => exact ⟨k + 1, by omega, by go_num, HN⟩
      case measure => simp [intOf]; omega
    · obtain rfl : many = k := by omega
      have hge : ¬ (many : Int) < (many : Int) := by omega
      obtain ⟨s, hs1, hs2, hs3⟩ := hR.out
      have H0' : Hid (∃ s, Lives w B s wr ∧ ChainEnd s last many 0 ∧ Own w B s u8 s.allNames wr) := ⟨s, hs1, by have := hs2.end; exact this, hs3⟩
      obtain ⟨A8, c8, hv8⟩ := RowOf.form hs3.1
      clear hR hs1 hs2 hs3 hv8 H0
      go_wp2
      go_loopw [14] (fun i wr => ∃ i' : Nat, i' ≤ many ∧ i = .int .i64 i' ∧ Hid (∃ s, Lives w B s wr ∧ ChainEnd s last many i' ∧ Own w B s u8 s.allNames wr)) (fun i _ => many - (intOf i).toNat)
      case atStart => exact ⟨0, Nat.zero_le _, rfl, H0'⟩
      case round =>
        obtain ⟨i, hi, rfl, hR⟩ := hrel
        obtain ⟨wo, rfl⟩ : ∃ wo : World, wo = wr := ⟨_, rfl⟩
        obtain ⟨s, hs1, hs2, hs3⟩ := hR.out
        by_cases hli : i < many
        · obtain ⟨mi, hmi⟩ : ∃ m, s.all[i]? = some m := ⟨_, List.getElem?_eq_getElem (by rw [hs2.len]; exact hli)⟩
          have HNL : Hid (s.all.length = many) := hs2.len
          have hnl : s.allNames.length = many := by unfold Pa.allNames; rw [List.length_map, hs2.len]
          obtain ⟨A9, c9, rfl⟩ := RowOf.form hs3.1
          have HLook : Hid (LookRel w B s (.slice A9 s.allNames.length c9) wo) := ⟨hs1, hs3.1⟩
          obtain ⟨b9, o9, rfl, _⟩ := look_cells HLook.out hmi
          have HMI := Lib.hid hmi
          have HEnd := Lib.hid hs2
          have HAway := Lib.hid hs3.2
          have hi0 : (0 : Int) ≤ (i : Int) := by omega
          have hi1 : (i : Int) < (s.allNames.length : Int) := by omega
          have hi2 : (i : Int) < (many : Int) := by omega
          have HKN := Lib.hid hnl
          clear hR hs1 hs2 hs3 hmi hnl
          go_wp2
          go_loopw [15] (fun i' wr => ∃ k : Nat, k ≤ many ∧ i' = .int .i64 k ∧ Hid (LookRel w B s (.slice (some ⟨b9, o9, none⟩) s.allNames.length c9) wr)) (fun i _ => many - (intOf i).toNat)
          case atStart => exact ⟨0, Nat.zero_le _, rfl, HLook⟩
          case round =>
            obtain ⟨k, hk, rfl, hRk⟩ := hrel
            by_cases hlk : k < many
            · obtain ⟨mk, hmk⟩ : ∃ m, s.all[k]? = some m := ⟨_, List.getElem?_eq_getElem (by rw [HNL.out]; exact hlk)⟩
              obtain ⟨_, _, heb, hcb⟩ := look_cells hRk.out hmk
              cases heb
              obtain ⟨_, _, hea, hca⟩ := look_cells hRk.out HMI.out
              cases hea
              have hk0 : (0 : Int) ≤ (k : Int) := by omega
              have hk1 : (k : Int) < (s.allNames.length : Int) := by have := HKN.out; omega
              have hk2 : (k : Int) < (many : Int) := by omega
              have HK : Hid (∀ W, Mod (fun _ => False) wr W → W.cell? ⟨b9, o9 + i * 2, none⟩ = some (.int .i64 (mi.frm : Int)) ∧ W.cell? ⟨b9, o9 + i * 2 + 1, none⟩ = some (.int .u64 (mi.num : Int)) ∧ W.cell? ⟨b9, o9 + k * 2, none⟩ = some (.int .i64 (mk.frm : Int)) ∧ W.cell? ⟨b9, o9 + k * 2 + 1, none⟩ = some (.int .u64 (mk.num : Int)) ∧ Mod (fun _ => False) wr W) := fun W hm => ⟨(hca W hm).1, (hca W hm).2, (hcb W hm).1, (hcb W hm).2, hm⟩
              have HMK := Lib.hid hmk
              clear hca hcb hmk
              by_cases h3 : i < k
              · skip
                have HC1 := Lib.hid (look_ahead hRk.out i k mi mk HMI.out HMK.out true (by rw [HEnd.out.ms.ahead k mk i HMK.out]; exact decide_eq_true h3))
                have HC2 := Lib.hid (look_can hRk.out HEnd.out h1 h2 HMK.out false (by exact decide_eq_false (by omega)))
                have t1 : decide (i < k) = true := decide_eq_true h3
                have t2 : decide ((i : Int) < (k : Int)) = true := decide_eq_true (by omega)
                have t3 : ((k : Int) == (i : Int)) = false := by rw [beq_eq_false_iff_ne]; omega
                have t4 : (k == i) = false := by rw [beq_eq_false_iff_ne]; omega
                go_wp2_with fail
                refine wp_region_part (S := fun w' => w'.cell? ⟨b9, o9 + i * 2, none⟩ = some (.int .i64 (mi.frm : Int)) ∧ w'.cell? ⟨b9, o9 + i * 2 + 1, none⟩ = some (.int .u64 (mi.num : Int)) ∧ w'.cell? ⟨b9, o9 + k * 2, none⟩ = some (.int .i64 (mk.frm : Int)) ∧ w'.cell? ⟨b9, o9 + k * 2 + 1, none⟩ = some (.int .u64 (mk.num : Int)) ∧ Mod (fun _ => False) wr w') [] (by kernel_rfl) ?_ (fun hHeld => ?_)
                · exact HK.out _ (Mod.refl _ _).drew
                refine wpPart_take (i := 0) (oi := { dst := some 90, op := Op.move (Operand.tmp 5), type := 24, pos := "more.go:32", after := #[], guard := none }) (v := ?_) rfl (by kernel_rfl) (by kernel_rfl) (by kernel_rfl) (by kernel_rfl) (by kernel_rfl) (fun _ _ _ h => h) (Or.inl ⟨by rfl, ?_⟩) (by assumption) ?_
                rotate_left
                · intro w hSw; (try dsimp only at hSw); go_simp <;> with_reducible rfl
                try simp only [Act.put, List.setIfInBounds_toArray, List.set_cons_zero, List.set_cons_succ]
                refine wpPart_take (i := 1) (oi := { dst := some 91, op := Op.move (Operand.tmp 8), type := 28, pos := "more.go:32", after := #[], guard := none }) (v := ?_) rfl (by kernel_rfl) (by kernel_rfl) (by kernel_rfl) (by kernel_rfl) (by kernel_rfl) (fun _ _ _ h => h) (Or.inl ⟨by rfl, ?_⟩) (by assumption) ?_
                rotate_left
                · intro w hSw; (try dsimp only at hSw); go_simp <;> with_reducible rfl
                try simp only [Act.put, List.setIfInBounds_toArray, List.set_cons_zero, List.set_cons_succ]
                refine wpPart_take (i := 2) (oi := { dst := some 92, op := Op.move (Operand.tmp 14), type := 3, pos := "more.go:32", after := #[], guard := none }) (v := ?_) rfl (by kernel_rfl) (by kernel_rfl) (by kernel_rfl) (by kernel_rfl) (by kernel_rfl) (fun _ _ _ h => h) (Or.inl ⟨by rfl, ?_⟩) (by assumption) ?_
                rotate_left
                · intro w hSw; (try dsimp only at hSw); go_simp <;> with_reducible rfl
                try simp only [Act.put, List.setIfInBounds_toArray, List.set_cons_zero, List.set_cons_succ]
                refine wpPart_take (i := 3) (oi := { dst := some 93, op := Op.indexAddr 28 (Operand.tmp 91) (Operand.tmp 92), type := 0, pos := "more.go:32", after := #[{ on := 1, ground := Ground.data }, { on := 2, ground := Ground.data }], guard := none }) (v := ?_) rfl (by kernel_rfl) (by kernel_rfl) (by kernel_rfl) (by kernel_rfl) (by kernel_rfl) (fun _ _ _ h => h) (Or.inl ⟨by rfl, ?_⟩) (by assumption) ?_
                rotate_left
                · intro w hSw; (try dsimp only at hSw); go_simp <;> with_reducible rfl
                try simp only [Act.put, List.setIfInBounds_toArray, List.set_cons_zero, List.set_cons_succ]
                refine wpPart_take (i := 4) (oi := { dst := some 94, op := Op.load 34 (Operand.tmp 93), type := 34, pos := "more.go:32", after := #[{ on := 3, ground := Ground.data }], guard := none }) (v := ?_) rfl (by kernel_rfl) (by kernel_rfl) (by kernel_rfl) (by kernel_rfl) (by kernel_rfl) (fun _ _ _ h => h) (Or.inl ⟨by rfl, ?_⟩) (by assumption) ?_
                rotate_left
                · intro w hSw; (try dsimp only at hSw); go_simp <;> with_reducible rfl
                try simp only [Act.put, List.setIfInBounds_toArray, List.set_cons_zero, List.set_cons_succ]
                refine wpPart_take (i := 5) (oi := { dst := some 95, op := Op.move (Operand.tmp 8), type := 28, pos := "more.go:32", after := #[], guard := none }) (v := ?_) rfl (by kernel_rfl) (by kernel_rfl) (by kernel_rfl) (by kernel_rfl) (by kernel_rfl) (fun _ _ _ h => h) (Or.inl ⟨by rfl, ?_⟩) (by assumption) ?_
                rotate_left
                · intro w hSw; (try dsimp only at hSw); go_simp <;> with_reducible rfl
                try simp only [Act.put, List.setIfInBounds_toArray, List.set_cons_zero, List.set_cons_succ]
                refine wpPart_take (i := 6) (oi := { dst := some 96, op := Op.move (Operand.tmp 15), type := 3, pos := "more.go:32", after := #[], guard := none }) (v := ?_) rfl (by kernel_rfl) (by kernel_rfl) (by kernel_rfl) (by kernel_rfl) (by kernel_rfl) (fun _ _ _ h => h) (Or.inl ⟨by rfl, ?_⟩) (by assumption) ?_
                rotate_left
                · intro w hSw; (try dsimp only at hSw); go_simp <;> with_reducible rfl
                try simp only [Act.put, List.setIfInBounds_toArray, List.set_cons_zero, List.set_cons_succ]
                refine wpPart_take (i := 7) (oi := { dst := some 97, op := Op.indexAddr 28 (Operand.tmp 95) (Operand.tmp 96), type := 0, pos := "more.go:32", after := #[{ on := 5, ground := Ground.data }, { on := 6, ground := Ground.data }], guard := none }) (v := ?_) rfl (by kernel_rfl) (by kernel_rfl) (by kernel_rfl) (by kernel_rfl) (by kernel_rfl) (fun _ _ _ h => h) (Or.inl ⟨by rfl, ?_⟩) (by assumption) ?_
                rotate_left
                · intro w hSw; (try dsimp only at hSw); go_simp <;> with_reducible rfl
                try simp only [Act.put, List.setIfInBounds_toArray, List.set_cons_zero, List.set_cons_succ]
                refine wpPart_take (i := 8) (oi := { dst := some 98, op := Op.load 34 (Operand.tmp 97), type := 34, pos := "more.go:32", after := #[{ on := 7, ground := Ground.data }], guard := none }) (v := ?_) rfl (by kernel_rfl) (by kernel_rfl) (by kernel_rfl) (by kernel_rfl) (by kernel_rfl) (fun _ _ _ h => h) (Or.inl ⟨by rfl, ?_⟩) (by assumption) ?_
                rotate_left
                · intro w hSw; (try dsimp only at hSw); go_simp <;> with_reducible rfl
                try simp only [Act.put, List.setIfInBounds_toArray, List.set_cons_zero, List.set_cons_succ]
                refine wpPart_take (i := 10) (oi := { dst := some 100, op := Op.move (Operand.tmp 14), type := 3, pos := "more.go:32", after := #[], guard := none }) (v := ?_) rfl (by kernel_rfl) (by kernel_rfl) (by kernel_rfl) (by kernel_rfl) (by kernel_rfl) (fun _ _ _ h => h) (Or.inl ⟨by rfl, ?_⟩) (by assumption) ?_
                rotate_left
                · intro w hSw; (try dsimp only at hSw); go_simp <;> with_reducible rfl
                try simp only [Act.put, List.setIfInBounds_toArray, List.set_cons_zero, List.set_cons_succ]
                refine wpPart_take (i := 11) (oi := { dst := some 101, op := Op.move (Operand.tmp 15), type := 3, pos := "more.go:32", after := #[], guard := none }) (v := ?_) rfl (by kernel_rfl) (by kernel_rfl) (by kernel_rfl) (by kernel_rfl) (by kernel_rfl) (fun _ _ _ h => h) (Or.inl ⟨by rfl, ?_⟩) (by assumption) ?_
                rotate_left
                · intro w hSw; (try dsimp only at hSw); go_simp <;> with_reducible rfl
                try simp only [Act.put, List.setIfInBounds_toArray, List.set_cons_zero, List.set_cons_succ]
                refine wpPart_take (i := 12) (oi := { dst := some 102, op := Op.binOp BinOp.lss 3 (Operand.tmp 100) (Operand.tmp 101) 3, type := 4, pos := "more.go:32", after := #[{ on := 10, ground := Ground.data }, { on := 11, ground := Ground.data }], guard := none }) (v := ?_) rfl (by kernel_rfl) (by kernel_rfl) (by kernel_rfl) (by kernel_rfl) (by kernel_rfl) (fun _ _ _ h => h) (Or.inl ⟨by rfl, ?_⟩) (by assumption) ?_
                rotate_left
                · intro w hSw; (try dsimp only at hSw); go_simp <;> with_reducible rfl
                try simp only [Act.put, List.setIfInBounds_toArray, List.set_cons_zero, List.set_cons_succ]
                refine wpPart_ready (rs := [9]) (by kernel_rfl) (by simp) ?_
                refine AllPart.cons (o := { dst := some 99, op := Op.call { callee := Callee.value (Operand.func 13), args := #[Operand.tmp 90, Operand.tmp 94, Operand.tmp 98], argTypes := #[24, 34, 34] }, type := 4, pos := "more.go:32", after := #[{ on := 0, ground := Ground.data }, { on := 4, ground := Ground.data }, { on := 8, ground := Ground.data }], guard := none }) rfl (by kernel_rfl) (fun K hK => ?_) AllPart.nil
                have hmz := hHeld.2.2.2.2
                go_simp
                go_at_call 13
                refine (HC1.out _ hmz).mono ?_
                rintro e w5 ⟨rfl, hm5⟩
                refine hK.out _ _ ?_ (fun hHeld => ?_)
                · exact HK.out _ hm5
                clear hK K
                try simp only [Act.put, List.setIfInBounds_toArray, List.set_cons_zero, List.set_cons_succ]
                clear hmz hm5
                refine wpPart_take (i := 13) (oi := { dst := some 103, op := Op.binOp BinOp.neq 4 (Operand.tmp 99) (Operand.tmp 102) 4, type := 4, pos := "more.go:32", after := #[{ on := 9, ground := Ground.data }, { on := 12, ground := Ground.data }], guard := none }) (v := ?_) rfl (by kernel_rfl) (by kernel_rfl) (by kernel_rfl) (by kernel_rfl) (by kernel_rfl) (fun _ _ _ h => h) (Or.inl ⟨by rfl, ?_⟩) (by assumption) ?_
                rotate_left
                · intro w hSw; (try dsimp only at hSw); go_simp <;> with_reducible rfl
                try simp only [Act.put, List.setIfInBounds_toArray, List.set_cons_zero, List.set_cons_succ]
                refine wpPart_take (i := 14) (oi := { dst := some 104, op := Op.move (Operand.tmp 103), type := 4, pos := "more.go:32", after := #[{ on := 13, ground := Ground.data }, { on := 9, ground := Ground.chain }], guard := none }) (v := ?_) rfl (by kernel_rfl) (by kernel_rfl) (by kernel_rfl) (by kernel_rfl) (by kernel_rfl) (fun _ _ _ h => h) (Or.inl ⟨by rfl, ?_⟩) (by assumption) ?_
                rotate_left
                · intro w hSw; (try dsimp only at hSw); go_simp <;> with_reducible rfl
                try simp only [Act.put, List.setIfInBounds_toArray, List.set_cons_zero, List.set_cons_succ]
                refine wpPart_take (i := 15) (oi := { dst := some 105, op := Op.move (Operand.tmp 5), type := 24, pos := "more.go:32", after := #[{ on := 14, ground := Ground.guard }], guard := some (14, false) }) (v := ?_) rfl (by kernel_rfl) (by kernel_rfl) (by kernel_rfl) (by kernel_rfl) (by kernel_rfl) (fun _ _ _ h => h) (Or.inl ⟨by rfl, ?_⟩) (by assumption) ?_
                rotate_left
                · intro w hSw; (try dsimp only at hSw); go_simp <;> with_reducible rfl
                try simp only [Act.put, List.setIfInBounds_toArray, List.set_cons_zero, List.set_cons_succ]
                refine wpPart_take (i := 16) (oi := { dst := some 106, op := Op.move (Operand.tmp 7), type := 3, pos := "more.go:32", after := #[{ on := 14, ground := Ground.guard }], guard := some (14, false) }) (v := ?_) rfl (by kernel_rfl) (by kernel_rfl) (by kernel_rfl) (by kernel_rfl) (by kernel_rfl) (fun _ _ _ h => h) (Or.inl ⟨by rfl, ?_⟩) (by assumption) ?_
                rotate_left
                · intro w hSw; (try dsimp only at hSw); go_simp <;> with_reducible rfl
                try simp only [Act.put, List.setIfInBounds_toArray, List.set_cons_zero, List.set_cons_succ]
                refine wpPart_take (i := 17) (oi := { dst := some 107, op := Op.move (Operand.tmp 8), type := 28, pos := "more.go:32", after := #[{ on := 14, ground := Ground.guard }], guard := some (14, false) }) (v := ?_) rfl (by kernel_rfl) (by kernel_rfl) (by kernel_rfl) (by kernel_rfl) (by kernel_rfl) (fun _ _ _ h => h) (Or.inl ⟨by rfl, ?_⟩) (by assumption) ?_
                rotate_left
                · intro w hSw; (try dsimp only at hSw); go_simp <;> with_reducible rfl
                try simp only [Act.put, List.setIfInBounds_toArray, List.set_cons_zero, List.set_cons_succ]
                refine wpPart_take (i := 18) (oi := { dst := some 108, op := Op.move (Operand.tmp 15), type := 3, pos := "more.go:32", after := #[{ on := 14, ground := Ground.guard }], guard := some (14, false) }) (v := ?_) rfl (by kernel_rfl) (by kernel_rfl) (by kernel_rfl) (by kernel_rfl) (by kernel_rfl) (fun _ _ _ h => h) (Or.inl ⟨by rfl, ?_⟩) (by assumption) ?_
                rotate_left
                · intro w hSw; (try dsimp only at hSw); go_simp <;> with_reducible rfl
                try simp only [Act.put, List.setIfInBounds_toArray, List.set_cons_zero, List.set_cons_succ]
                refine wpPart_take (i := 19) (oi := { dst := some 109, op := Op.indexAddr 28 (Operand.tmp 107) (Operand.tmp 108), type := 0, pos := "more.go:32", after := #[{ on := 17, ground := Ground.data }, { on := 18, ground := Ground.data }, { on := 14, ground := Ground.guard }], guard := some (14, false) }) (v := ?_) rfl (by kernel_rfl) (by kernel_rfl) (by kernel_rfl) (by kernel_rfl) (by kernel_rfl) (fun _ _ _ h => h) (Or.inl ⟨by rfl, ?_⟩) (by assumption) ?_
                rotate_left
                · intro w hSw; (try dsimp only at hSw); go_simp <;> with_reducible rfl
                try simp only [Act.put, List.setIfInBounds_toArray, List.set_cons_zero, List.set_cons_succ]
                refine wpPart_take (i := 20) (oi := { dst := some 110, op := Op.load 34 (Operand.tmp 109), type := 34, pos := "more.go:32", after := #[{ on := 19, ground := Ground.data }, { on := 14, ground := Ground.guard }], guard := some (14, false) }) (v := ?_) rfl (by kernel_rfl) (by kernel_rfl) (by kernel_rfl) (by kernel_rfl) (by kernel_rfl) (fun _ _ _ h => h) (Or.inl ⟨by rfl, ?_⟩) (by assumption) ?_
                rotate_left
                · intro w hSw; (try dsimp only at hSw); go_simp <;> with_reducible rfl
                try simp only [Act.put, List.setIfInBounds_toArray, List.set_cons_zero, List.set_cons_succ]
                refine wpPart_take (i := 22) (oi := { dst := some 112, op := Op.move (Operand.tmp 15), type := 3, pos := "more.go:32", after := #[{ on := 14, ground := Ground.guard }], guard := some (14, false) }) (v := ?_) rfl (by kernel_rfl) (by kernel_rfl) (by kernel_rfl) (by kernel_rfl) (by kernel_rfl) (fun _ _ _ h => h) (Or.inl ⟨by rfl, ?_⟩) (by assumption) ?_
                rotate_left
                · intro w hSw; (try dsimp only at hSw); go_simp <;> with_reducible rfl
                try simp only [Act.put, List.setIfInBounds_toArray, List.set_cons_zero, List.set_cons_succ]
                refine wpPart_take (i := 23) (oi := { dst := some 113, op := Op.move (Operand.tmp 14), type := 3, pos := "more.go:32", after := #[{ on := 14, ground := Ground.guard }], guard := some (14, false) }) (v := ?_) rfl (by kernel_rfl) (by kernel_rfl) (by kernel_rfl) (by kernel_rfl) (by kernel_rfl) (fun _ _ _ h => h) (Or.inl ⟨by rfl, ?_⟩) (by assumption) ?_
                rotate_left
                · intro w hSw; (try dsimp only at hSw); go_simp <;> with_reducible rfl
                try simp only [Act.put, List.setIfInBounds_toArray, List.set_cons_zero, List.set_cons_succ]
                refine wpPart_take (i := 24) (oi := { dst := some 114, op := Op.binOp BinOp.eql 3 (Operand.tmp 112) (Operand.tmp 113) 3, type := 4, pos := "more.go:32", after := #[{ on := 22, ground := Ground.data }, { on := 23, ground := Ground.data }, { on := 14, ground := Ground.guard }], guard := some (14, false) }) (v := ?_) rfl (by kernel_rfl) (by kernel_rfl) (by kernel_rfl) (by kernel_rfl) (by kernel_rfl) (fun _ _ _ h => h) (Or.inl ⟨by rfl, ?_⟩) (by assumption) ?_
                rotate_left
                · intro w hSw; (try dsimp only at hSw); go_simp <;> with_reducible rfl
                try simp only [Act.put, List.setIfInBounds_toArray, List.set_cons_zero, List.set_cons_succ]
                refine wpPart_ready (rs := [21]) (by kernel_rfl) (by simp) ?_
                refine AllPart.cons (o := { dst := some 111, op := Op.call { callee := Callee.value (Operand.func 15), args := #[Operand.tmp 105, Operand.tmp 106, Operand.tmp 110], argTypes := #[24, 3, 34] }, type := 4, pos := "more.go:32", after := #[{ on := 15, ground := Ground.data }, { on := 16, ground := Ground.data }, { on := 20, ground := Ground.data }, { on := 14, ground := Ground.chain }, { on := 14, ground := Ground.guard }], guard := some (14, false) }) rfl (by kernel_rfl) (fun K hK => ?_) AllPart.nil
                have hmz := hHeld.2.2.2.2
                go_simp
                go_at_call 15
                refine (HC2.out _ hmz).mono ?_
                rintro e w5 ⟨rfl, hm5⟩
                refine hK.out _ _ ?_ (fun hHeld => ?_)
                · exact HK.out _ hm5
                clear hK K
                try simp only [Act.put, List.setIfInBounds_toArray, List.set_cons_zero, List.set_cons_succ]
                clear hmz hm5
                refine wpPart_take (i := 25) (oi := { dst := some 115, op := Op.binOp BinOp.neq 4 (Operand.tmp 111) (Operand.tmp 114) 4, type := 4, pos := "more.go:32", after := #[{ on := 21, ground := Ground.data }, { on := 24, ground := Ground.data }, { on := 14, ground := Ground.guard }], guard := some (14, false) }) (v := ?_) rfl (by kernel_rfl) (by kernel_rfl) (by kernel_rfl) (by kernel_rfl) (by kernel_rfl) (fun _ _ _ h => h) (Or.inl ⟨by rfl, ?_⟩) (by assumption) ?_
                rotate_left
                · intro w hSw; (try dsimp only at hSw); go_simp <;> with_reducible rfl
                try simp only [Act.put, List.setIfInBounds_toArray, List.set_cons_zero, List.set_cons_succ]
                refine wpPart_take (i := 26) (oi := { dst := some 116, op := Op.move (Operand.tmp 115), type := 4, pos := "more.go:32", after := #[{ on := 25, ground := Ground.data }, { on := 21, ground := Ground.chain }, { on := 14, ground := Ground.guard }], guard := some (14, false) }) (v := ?_) rfl (by kernel_rfl) (by kernel_rfl) (by kernel_rfl) (by kernel_rfl) (by kernel_rfl) (fun _ _ _ h => h) (Or.inl ⟨by rfl, ?_⟩) (by assumption) ?_
                rotate_left
                · intro w hSw; (try dsimp only at hSw); go_simp <;> with_reducible rfl
                try simp only [Act.put, List.setIfInBounds_toArray, List.set_cons_zero, List.set_cons_succ]
                refine wpPart_take (i := 27) (oi := { dst := some 117, op := Op.move (Operand.tmp 15), type := 3, pos := "more.go:32", after := #[{ on := 26, ground := Ground.guard }], guard := some (26, true) }) (v := undef) rfl (by kernel_rfl) (by kernel_rfl) (by kernel_rfl) (by kernel_rfl) (by kernel_rfl) (fun _ _ _ h => h) (Or.inr ⟨by rfl, rfl⟩) (by assumption) ?_
                try simp only [Act.put, List.setIfInBounds_toArray, List.set_cons_zero, List.set_cons_succ]
                refine wpPart_take (i := 28) (oi := { dst := some 118, op := Op.move (Operand.tmp 14), type := 3, pos := "more.go:32", after := #[{ on := 26, ground := Ground.guard }], guard := some (26, true) }) (v := undef) rfl (by kernel_rfl) (by kernel_rfl) (by kernel_rfl) (by kernel_rfl) (by kernel_rfl) (fun _ _ _ h => h) (Or.inr ⟨by rfl, rfl⟩) (by assumption) ?_
                try simp only [Act.put, List.setIfInBounds_toArray, List.set_cons_zero, List.set_cons_succ]
                refine wpPart_take (i := 29) (oi := { dst := some 119, op := Op.binOp BinOp.geq 3 (Operand.tmp 117) (Operand.tmp 118) 3, type := 4, pos := "more.go:32", after := #[{ on := 27, ground := Ground.data }, { on := 28, ground := Ground.data }, { on := 26, ground := Ground.guard }], guard := some (26, true) }) (v := undef) rfl (by kernel_rfl) (by kernel_rfl) (by kernel_rfl) (by kernel_rfl) (by kernel_rfl) (fun _ _ _ h => h) (Or.inr ⟨by rfl, rfl⟩) (by assumption) ?_
                try simp only [Act.put, List.setIfInBounds_toArray, List.set_cons_zero, List.set_cons_succ]
                refine wpPart_take (i := 30) (oi := { dst := some 120, op := Op.pick (Operand.tmp 116) (Operand.tmp 119) (Operand.const (Value.bool false)), type := 4, pos := "more.go:32", after := #[{ on := 26, ground := Ground.data }, { on := 29, ground := Ground.data }, { on := 14, ground := Ground.guard }], guard := some (14, false) }) (v := ?_) rfl (by kernel_rfl) (by kernel_rfl) (by kernel_rfl) (by kernel_rfl) (by kernel_rfl) (fun _ _ _ h => h) (Or.inl ⟨by rfl, ?_⟩) (by assumption) ?_
                rotate_left
                · intro w hSw; (try dsimp only at hSw); go_simp <;> with_reducible rfl
                try simp only [Act.put, List.setIfInBounds_toArray, List.set_cons_zero, List.set_cons_succ]
                refine wpPart_take (i := 31) (oi := { dst := some 121, op := Op.pick (Operand.tmp 104) (Operand.const (Value.bool true)) (Operand.tmp 120), type := 4, pos := "more.go:32", after := #[{ on := 14, ground := Ground.data }, { on := 30, ground := Ground.data }], guard := none }) (v := ?_) rfl (by kernel_rfl) (by kernel_rfl) (by kernel_rfl) (by kernel_rfl) (by kernel_rfl) (fun _ _ _ h => h) (Or.inl ⟨by rfl, ?_⟩) (by assumption) ?_
                rotate_left
                · intro w hSw; (try dsimp only at hSw); go_simp <;> with_reducible rfl
                try simp only [Act.put, List.setIfInBounds_toArray, List.set_cons_zero, List.set_cons_succ]
                refine wpPart_done (by kernel_rfl) ?_ _
                have HRd := Lib.hid (hRk.out.quiet hHeld.2.2.2.2)
                clear hHeld HK HC1 HC2
                go_wp2
                go_roundw
                case rel => exact ⟨k + 1, by omega, by go_num, HRd⟩
                case measure => simp [intOf]; omega
              · by_cases h4 : k = i
                · skip
                  have HC1 := Lib.hid (look_ahead hRk.out i k mi mk HMI.out HMK.out false (by rw [HEnd.out.ms.ahead k mk i HMK.out]; exact decide_eq_false (by omega)))
                  have HC2 := Lib.hid (look_can hRk.out HEnd.out h1 h2 HMK.out true (by exact decide_eq_true h4))
                  have t1 : decide (i < k) = false := decide_eq_false (by omega)
                  have t2 : decide ((i : Int) < (k : Int)) = false := decide_eq_false (by omega)
                  have t3 : ((k : Int) == (i : Int)) = true := by rw [beq_iff_eq]; omega
                  have t4 : (k == i) = true := by rw [beq_iff_eq]; omega
                  clear h4
                  go_wp2_with fail
                  refine wp_region_part (S := fun w' => w'.cell? ⟨b9, o9 + i * 2, none⟩ = some (.int .i64 (mi.frm : Int)) ∧ w'.cell? ⟨b9, o9 + i * 2 + 1, none⟩ = some (.int .u64 (mi.num : Int)) ∧ w'.cell? ⟨b9, o9 + k * 2, none⟩ = some (.int .i64 (mk.frm : Int)) ∧ w'.cell? ⟨b9, o9 + k * 2 + 1, none⟩ = some (.int .u64 (mk.num : Int)) ∧ Mod (fun _ => False) wr w') [] (by kernel_rfl) ?_ (fun hHeld => ?_)
                  · exact HK.out _ (Mod.refl _ _).drew
                  refine wpPart_take (i := 0) (oi := { dst := some 90, op := Op.move (Operand.tmp 5), type := 24, pos := "more.go:32", after := #[], guard := none }) (v := ?_) rfl (by kernel_rfl) (by kernel_rfl) (by kernel_rfl) (by kernel_rfl) (by kernel_rfl) (fun _ _ _ h => h) (Or.inl ⟨by rfl, ?_⟩) (by assumption) ?_
                  rotate_left
                  · intro w hSw; (try dsimp only at hSw); go_simp <;> with_reducible rfl
                  try simp only [Act.put, List.setIfInBounds_toArray, List.set_cons_zero, List.set_cons_succ]
                  refine wpPart_take (i := 1) (oi := { dst := some 91, op := Op.move (Operand.tmp 8), type := 28, pos := "more.go:32", after := #[], guard := none }) (v := ?_) rfl (by kernel_rfl) (by kernel_rfl) (by kernel_rfl) (by kernel_rfl) (by kernel_rfl) (fun _ _ _ h => h) (Or.inl ⟨by rfl, ?_⟩) (by assumption) ?_
                  rotate_left
                  · intro w hSw; (try dsimp only at hSw); go_simp <;> with_reducible rfl
                  try simp only [Act.put, List.setIfInBounds_toArray, List.set_cons_zero, List.set_cons_succ]
                  refine wpPart_take (i := 2) (oi := { dst := some 92, op := Op.move (Operand.tmp 14), type := 3, pos := "more.go:32", after := #[], guard := none }) (v := ?_) rfl (by kernel_rfl) (by kernel_rfl) (by kernel_rfl) (by kernel_rfl) (by kernel_rfl) (fun _ _ _ h => h) (Or.inl ⟨by rfl, ?_⟩) (by assumption) ?_
                  rotate_left
                  · intro w hSw; (try dsimp only at hSw); go_simp <;> with_reducible rfl
                  try simp only [Act.put, List.setIfInBounds_toArray, List.set_cons_zero, List.set_cons_succ]
                  refine wpPart_take (i := 3) (oi := { dst := some 93, op := Op.indexAddr 28 (Operand.tmp 91) (Operand.tmp 92), type := 0, pos := "more.go:32", after := #[{ on := 1, ground := Ground.data }, { on := 2, ground := Ground.data }], guard := none }) (v := ?_) rfl (by kernel_rfl) (by kernel_rfl) (by kernel_rfl) (by kernel_rfl) (by kernel_rfl) (fun _ _ _ h => h) (Or.inl ⟨by rfl, ?_⟩) (by assumption) ?_
                  rotate_left
                  · intro w hSw; (try dsimp only at hSw); go_simp <;> with_reducible rfl
                  try simp only [Act.put, List.setIfInBounds_toArray, List.set_cons_zero, List.set_cons_succ]
                  refine wpPart_take (i := 4) (oi := { dst := some 94, op := Op.load 34 (Operand.tmp 93), type := 34, pos := "more.go:32", after := #[{ on := 3, ground := Ground.data }], guard := none }) (v := ?_) rfl (by kernel_rfl) (by kernel_rfl) (by kernel_rfl) (by kernel_rfl) (by kernel_rfl) (fun _ _ _ h => h) (Or.inl ⟨by rfl, ?_⟩) (by assumption) ?_
                  rotate_left
                  · intro w hSw; (try dsimp only at hSw); go_simp <;> with_reducible rfl
                  try simp only [Act.put, List.setIfInBounds_toArray, List.set_cons_zero, List.set_cons_succ]
                  refine wpPart_take (i := 5) (oi := { dst := some 95, op := Op.move (Operand.tmp 8), type := 28, pos := "more.go:32", after := #[], guard := none }) (v := ?_) rfl (by kernel_rfl) (by kernel_rfl) (by kernel_rfl) (by kernel_rfl) (by kernel_rfl) (fun _ _ _ h => h) (Or.inl ⟨by rfl, ?_⟩) (by assumption) ?_
                  rotate_left
                  · intro w hSw; (try dsimp only at hSw); go_simp <;> with_reducible rfl
                  try simp only [Act.put, List.setIfInBounds_toArray, List.set_cons_zero, List.set_cons_succ]
                  refine wpPart_take (i := 6) (oi := { dst := some 96, op := Op.move (Operand.tmp 15), type := 3, pos := "more.go:32", after := #[], guard := none }) (v := ?_) rfl (by kernel_rfl) (by kernel_rfl) (by kernel_rfl) (by kernel_rfl) (by kernel_rfl) (fun _ _ _ h => h) (Or.inl ⟨by rfl, ?_⟩) (by assumption) ?_
                  rotate_left
                  · intro w hSw; (try dsimp only at hSw); go_simp <;> with_reducible rfl
                  try simp only [Act.put, List.setIfInBounds_toArray, List.set_cons_zero, List.set_cons_succ]
                  refine wpPart_take (i := 7) (oi := { dst := some 97, op := Op.indexAddr 28 (Operand.tmp 95) (Operand.tmp 96), type := 0, pos := "more.go:32", after := #[{ on := 5, ground := Ground.data }, { on := 6, ground := Ground.data }], guard := none }) (v := ?_) rfl (by kernel_rfl) (by kernel_rfl) (by kernel_rfl) (by kernel_rfl) (by kernel_rfl) (fun _ _ _ h => h) (Or.inl ⟨by rfl, ?_⟩) (by assumption) ?_
                  rotate_left
                  · intro w hSw; (try dsimp only at hSw); go_simp <;> with_reducible rfl
                  try simp only [Act.put, List.setIfInBounds_toArray, List.set_cons_zero, List.set_cons_succ]
                  refine wpPart_take (i := 8) (oi := { dst := some 98, op := Op.load 34 (Operand.tmp 97), type := 34, pos := "more.go:32", after := #[{ on := 7, ground := Ground.data }], guard := none }) (v := ?_) rfl (by kernel_rfl) (by kernel_rfl) (by kernel_rfl) (by kernel_rfl) (by kernel_rfl) (fun _ _ _ h => h) (Or.inl ⟨by rfl, ?_⟩) (by assumption) ?_
                  rotate_left
                  · intro w hSw; (try dsimp only at hSw); go_simp <;> with_reducible rfl
                  try simp only [Act.put, List.setIfInBounds_toArray, List.set_cons_zero, List.set_cons_succ]
                  refine wpPart_take (i := 10) (oi := { dst := some 100, op := Op.move (Operand.tmp 14), type := 3, pos := "more.go:32", after := #[], guard := none }) (v := ?_) rfl (by kernel_rfl) (by kernel_rfl) (by kernel_rfl) (by kernel_rfl) (by kernel_rfl) (fun _ _ _ h => h) (Or.inl ⟨by rfl, ?_⟩) (by assumption) ?_
                  rotate_left
                  · intro w hSw; (try dsimp only at hSw); go_simp <;> with_reducible rfl
                  try simp only [Act.put, List.setIfInBounds_toArray, List.set_cons_zero, List.set_cons_succ]
                  refine wpPart_take (i := 11) (oi := { dst := some 101, op := Op.move (Operand.tmp 15), type := 3, pos := "more.go:32", after := #[], guard := none }) (v := ?_) rfl (by kernel_rfl) (by kernel_rfl) (by kernel_rfl) (by kernel_rfl) (by kernel_rfl) (fun _ _ _ h => h) (Or.inl ⟨by rfl, ?_⟩) (by assumption) ?_
                  rotate_left
                  · intro w hSw; (try dsimp only at hSw); go_simp <;> with_reducible rfl
                  try simp only [Act.put, List.setIfInBounds_toArray, List.set_cons_zero, List.set_cons_succ]
                  refine wpPart_take (i := 12) (oi := { dst := some 102, op := Op.binOp BinOp.lss 3 (Operand.tmp 100) (Operand.tmp 101) 3, type := 4, pos := "more.go:32", after := #[{ on := 10, ground := Ground.data }, { on := 11, ground := Ground.data }], guard := none }) (v := ?_) rfl (by kernel_rfl) (by kernel_rfl) (by kernel_rfl) (by kernel_rfl) (by kernel_rfl) (fun _ _ _ h => h) (Or.inl ⟨by rfl, ?_⟩) (by assumption) ?_
                  rotate_left
                  · intro w hSw; (try dsimp only at hSw); go_simp <;> with_reducible rfl
                  try simp only [Act.put, List.setIfInBounds_toArray, List.set_cons_zero, List.set_cons_succ]
                  refine wpPart_ready (rs := [9]) (by kernel_rfl) (by simp) ?_
                  refine AllPart.cons (o := { dst := some 99, op := Op.call { callee := Callee.value (Operand.func 13), args := #[Operand.tmp 90, Operand.tmp 94, Operand.tmp 98], argTypes := #[24, 34, 34] }, type := 4, pos := "more.go:32", after := #[{ on := 0, ground := Ground.data }, { on := 4, ground := Ground.data }, { on := 8, ground := Ground.data }], guard := none }) rfl (by kernel_rfl) (fun K hK => ?_) AllPart.nil
                  have hmz := hHeld.2.2.2.2
                  go_simp
                  go_at_call 13
                  refine (HC1.out _ hmz).mono ?_
                  rintro e w5 ⟨rfl, hm5⟩
                  refine hK.out _ _ ?_ (fun hHeld => ?_)
                  · exact HK.out _ hm5
                  clear hK K
                  try simp only [Act.put, List.setIfInBounds_toArray, List.set_cons_zero, List.set_cons_succ]
                  clear hmz hm5
                  refine wpPart_take (i := 13) (oi := { dst := some 103, op := Op.binOp BinOp.neq 4 (Operand.tmp 99) (Operand.tmp 102) 4, type := 4, pos := "more.go:32", after := #[{ on := 9, ground := Ground.data }, { on := 12, ground := Ground.data }], guard := none }) (v := ?_) rfl (by kernel_rfl) (by kernel_rfl) (by kernel_rfl) (by kernel_rfl) (by kernel_rfl) (fun _ _ _ h => h) (Or.inl ⟨by rfl, ?_⟩) (by assumption) ?_
                  rotate_left
                  · intro w hSw; (try dsimp only at hSw); go_simp <;> with_reducible rfl
                  try simp only [Act.put, List.setIfInBounds_toArray, List.set_cons_zero, List.set_cons_succ]
                  refine wpPart_take (i := 14) (oi := { dst := some 104, op := Op.move (Operand.tmp 103), type := 4, pos := "more.go:32", after := #[{ on := 13, ground := Ground.data }, { on := 9, ground := Ground.chain }], guard := none }) (v := ?_) rfl (by kernel_rfl) (by kernel_rfl) (by kernel_rfl) (by kernel_rfl) (by kernel_rfl) (fun _ _ _ h => h) (Or.inl ⟨by rfl, ?_⟩) (by assumption) ?_
                  rotate_left
                  · intro w hSw; (try dsimp only at hSw); go_simp <;> with_reducible rfl
                  try simp only [Act.put, List.setIfInBounds_toArray, List.set_cons_zero, List.set_cons_succ]
                  refine wpPart_take (i := 15) (oi := { dst := some 105, op := Op.move (Operand.tmp 5), type := 24, pos := "more.go:32", after := #[{ on := 14, ground := Ground.guard }], guard := some (14, false) }) (v := ?_) rfl (by kernel_rfl) (by kernel_rfl) (by kernel_rfl) (by kernel_rfl) (by kernel_rfl) (fun _ _ _ h => h) (Or.inl ⟨by rfl, ?_⟩) (by assumption) ?_
                  rotate_left
                  · intro w hSw; (try dsimp only at hSw); go_simp <;> with_reducible rfl
                  try simp only [Act.put, List.setIfInBounds_toArray, List.set_cons_zero, List.set_cons_succ]
                  refine wpPart_take (i := 16) (oi := { dst := some 106, op := Op.move (Operand.tmp 7), type := 3, pos := "more.go:32", after := #[{ on := 14, ground := Ground.guard }], guard := some (14, false) }) (v := ?_) rfl (by kernel_rfl) (by kernel_rfl) (by kernel_rfl) (by kernel_rfl) (by kernel_rfl) (fun _ _ _ h => h) (Or.inl ⟨by rfl, ?_⟩) (by assumption) ?_
                  rotate_left
                  · intro w hSw; (try dsimp only at hSw); go_simp <;> with_reducible rfl
                  try simp only [Act.put, List.setIfInBounds_toArray, List.set_cons_zero, List.set_cons_succ]
                  refine wpPart_take (i := 17) (oi := { dst := some 107, op := Op.move (Operand.tmp 8), type := 28, pos := "more.go:32", after := #[{ on := 14, ground := Ground.guard }], guard := some (14, false) }) (v := ?_) rfl (by kernel_rfl) (by kernel_rfl) (by kernel_rfl) (by kernel_rfl) (by kernel_rfl) (fun _ _ _ h => h) (Or.inl ⟨by rfl, ?_⟩) (by assumption) ?_
                  rotate_left
                  · intro w hSw; (try dsimp only at hSw); go_simp <;> with_reducible rfl
                  try simp only [Act.put, List.setIfInBounds_toArray, List.set_cons_zero, List.set_cons_succ]
                  refine wpPart_take (i := 18) (oi := { dst := some 108, op := Op.move (Operand.tmp 15), type := 3, pos := "more.go:32", after := #[{ on := 14, ground := Ground.guard }], guard := some (14, false) }) (v := ?_) rfl (by kernel_rfl) (by kernel_rfl) (by kernel_rfl) (by kernel_rfl) (by kernel_rfl) (fun _ _ _ h => h) (Or.inl ⟨by rfl, ?_⟩) (by assumption) ?_
                  rotate_left
                  · intro w hSw; (try dsimp only at hSw); go_simp <;> with_reducible rfl
                  try simp only [Act.put, List.setIfInBounds_toArray, List.set_cons_zero, List.set_cons_succ]
                  refine wpPart_take (i := 19) (oi := { dst := some 109, op := Op.indexAddr 28 (Operand.tmp 107) (Operand.tmp 108), type := 0, pos := "more.go:32", after := #[{ on := 17, ground := Ground.data }, { on := 18, ground := Ground.data }, { on := 14, ground := Ground.guard }], guard := some (14, false) }) (v := ?_) rfl (by kernel_rfl) (by kernel_rfl) (by kernel_rfl) (by kernel_rfl) (by kernel_rfl) (fun _ _ _ h => h) (Or.inl ⟨by rfl, ?_⟩) (by assumption) ?_
                  rotate_left
                  · intro w hSw; (try dsimp only at hSw); go_simp <;> with_reducible rfl
                  try simp only [Act.put, List.setIfInBounds_toArray, List.set_cons_zero, List.set_cons_succ]
                  refine wpPart_take (i := 20) (oi := { dst := some 110, op := Op.load 34 (Operand.tmp 109), type := 34, pos := "more.go:32", after := #[{ on := 19, ground := Ground.data }, { on := 14, ground := Ground.guard }], guard := some (14, false) }) (v := ?_) rfl (by kernel_rfl) (by kernel_rfl) (by kernel_rfl) (by kernel_rfl) (by kernel_rfl) (fun _ _ _ h => h) (Or.inl ⟨by rfl, ?_⟩) (by assumption) ?_
                  rotate_left
                  · intro w hSw; (try dsimp only at hSw); go_simp <;> with_reducible rfl
                  try simp only [Act.put, List.setIfInBounds_toArray, List.set_cons_zero, List.set_cons_succ]
                  refine wpPart_take (i := 22) (oi := { dst := some 112, op := Op.move (Operand.tmp 15), type := 3, pos := "more.go:32", after := #[{ on := 14, ground := Ground.guard }], guard := some (14, false) }) (v := ?_) rfl (by kernel_rfl) (by kernel_rfl) (by kernel_rfl) (by kernel_rfl) (by kernel_rfl) (fun _ _ _ h => h) (Or.inl ⟨by rfl, ?_⟩) (by assumption) ?_
                  rotate_left
                  · intro w hSw; (try dsimp only at hSw); go_simp <;> with_reducible rfl
                  try simp only [Act.put, List.setIfInBounds_toArray, List.set_cons_zero, List.set_cons_succ]
                  refine wpPart_take (i := 23) (oi := { dst := some 113, op := Op.move (Operand.tmp 14), type := 3, pos := "more.go:32", after := #[{ on := 14, ground := Ground.guard }], guard := some (14, false) }) (v := ?_) rfl (by kernel_rfl) (by kernel_rfl) (by kernel_rfl) (by kernel_rfl) (by kernel_rfl) (fun _ _ _ h => h) (Or.inl ⟨by rfl, ?_⟩) (by assumption) ?_
                  rotate_left
                  · intro w hSw; (try dsimp only at hSw); go_simp <;> with_reducible rfl
                  try simp only [Act.put, List.setIfInBounds_toArray, List.set_cons_zero, List.set_cons_succ]
                  refine wpPart_take (i := 24) (oi := { dst := some 114, op := Op.binOp BinOp.eql 3 (Operand.tmp 112) (Operand.tmp 113) 3, type := 4, pos := "more.go:32", after := #[{ on := 22, ground := Ground.data }, { on := 23, ground := Ground.data }, { on := 14, ground := Ground.guard }], guard := some (14, false) }) (v := ?_) rfl (by kernel_rfl) (by kernel_rfl) (by kernel_rfl) (by kernel_rfl) (by kernel_rfl) (fun _ _ _ h => h) (Or.inl ⟨by rfl, ?_⟩) (by assumption) ?_
                  rotate_left
                  · intro w hSw; (try dsimp only at hSw); go_simp <;> with_reducible rfl
                  try simp only [Act.put, List.setIfInBounds_toArray, List.set_cons_zero, List.set_cons_succ]
                  refine wpPart_ready (rs := [21]) (by kernel_rfl) (by simp) ?_
                  refine AllPart.cons (o := { dst := some 111, op := Op.call { callee := Callee.value (Operand.func 15), args := #[Operand.tmp 105, Operand.tmp 106, Operand.tmp 110], argTypes := #[24, 3, 34] }, type := 4, pos := "more.go:32", after := #[{ on := 15, ground := Ground.data }, { on := 16, ground := Ground.data }, { on := 20, ground := Ground.data }, { on := 14, ground := Ground.chain }, { on := 14, ground := Ground.guard }], guard := some (14, false) }) rfl (by kernel_rfl) (fun K hK => ?_) AllPart.nil
                  have hmz := hHeld.2.2.2.2
                  go_simp
                  go_at_call 15
                  refine (HC2.out _ hmz).mono ?_
                  rintro e w5 ⟨rfl, hm5⟩
                  refine hK.out _ _ ?_ (fun hHeld => ?_)
                  · exact HK.out _ hm5
                  clear hK K
                  try simp only [Act.put, List.setIfInBounds_toArray, List.set_cons_zero, List.set_cons_succ]
                  clear hmz hm5
                  refine wpPart_take (i := 25) (oi := { dst := some 115, op := Op.binOp BinOp.neq 4 (Operand.tmp 111) (Operand.tmp 114) 4, type := 4, pos := "more.go:32", after := #[{ on := 21, ground := Ground.data }, { on := 24, ground := Ground.data }, { on := 14, ground := Ground.guard }], guard := some (14, false) }) (v := ?_) rfl (by kernel_rfl) (by kernel_rfl) (by kernel_rfl) (by kernel_rfl) (by kernel_rfl) (fun _ _ _ h => h) (Or.inl ⟨by rfl, ?_⟩) (by assumption) ?_
                  rotate_left
                  · intro w hSw; (try dsimp only at hSw); go_simp <;> with_reducible rfl
                  try simp only [Act.put, List.setIfInBounds_toArray, List.set_cons_zero, List.set_cons_succ]
                  refine wpPart_take (i := 26) (oi := { dst := some 116, op := Op.move (Operand.tmp 115), type := 4, pos := "more.go:32", after := #[{ on := 25, ground := Ground.data }, { on := 21, ground := Ground.chain }, { on := 14, ground := Ground.guard }], guard := some (14, false) }) (v := ?_) rfl (by kernel_rfl) (by kernel_rfl) (by kernel_rfl) (by kernel_rfl) (by kernel_rfl) (fun _ _ _ h => h) (Or.inl ⟨by rfl, ?_⟩) (by assumption) ?_
                  rotate_left
                  · intro w hSw; (try dsimp only at hSw); go_simp <;> with_reducible rfl
                  try simp only [Act.put, List.setIfInBounds_toArray, List.set_cons_zero, List.set_cons_succ]
                  refine wpPart_take (i := 27) (oi := { dst := some 117, op := Op.move (Operand.tmp 15), type := 3, pos := "more.go:32", after := #[{ on := 26, ground := Ground.guard }], guard := some (26, true) }) (v := undef) rfl (by kernel_rfl) (by kernel_rfl) (by kernel_rfl) (by kernel_rfl) (by kernel_rfl) (fun _ _ _ h => h) (Or.inr ⟨by rfl, rfl⟩) (by assumption) ?_
                  try simp only [Act.put, List.setIfInBounds_toArray, List.set_cons_zero, List.set_cons_succ]
                  refine wpPart_take (i := 28) (oi := { dst := some 118, op := Op.move (Operand.tmp 14), type := 3, pos := "more.go:32", after := #[{ on := 26, ground := Ground.guard }], guard := some (26, true) }) (v := undef) rfl (by kernel_rfl) (by kernel_rfl) (by kernel_rfl) (by kernel_rfl) (by kernel_rfl) (fun _ _ _ h => h) (Or.inr ⟨by rfl, rfl⟩) (by assumption) ?_
                  try simp only [Act.put, List.setIfInBounds_toArray, List.set_cons_zero, List.set_cons_succ]
                  refine wpPart_take (i := 29) (oi := { dst := some 119, op := Op.binOp BinOp.geq 3 (Operand.tmp 117) (Operand.tmp 118) 3, type := 4, pos := "more.go:32", after := #[{ on := 27, ground := Ground.data }, { on := 28, ground := Ground.data }, { on := 26, ground := Ground.guard }], guard := some (26, true) }) (v := undef) rfl (by kernel_rfl) (by kernel_rfl) (by kernel_rfl) (by kernel_rfl) (by kernel_rfl) (fun _ _ _ h => h) (Or.inr ⟨by rfl, rfl⟩) (by assumption) ?_
                  try simp only [Act.put, List.setIfInBounds_toArray, List.set_cons_zero, List.set_cons_succ]
                  refine wpPart_take (i := 30) (oi := { dst := some 120, op := Op.pick (Operand.tmp 116) (Operand.tmp 119) (Operand.const (Value.bool false)), type := 4, pos := "more.go:32", after := #[{ on := 26, ground := Ground.data }, { on := 29, ground := Ground.data }, { on := 14, ground := Ground.guard }], guard := some (14, false) }) (v := ?_) rfl (by kernel_rfl) (by kernel_rfl) (by kernel_rfl) (by kernel_rfl) (by kernel_rfl) (fun _ _ _ h => h) (Or.inl ⟨by rfl, ?_⟩) (by assumption) ?_
                  rotate_left
                  · intro w hSw; (try dsimp only at hSw); go_simp <;> with_reducible rfl
                  try simp only [Act.put, List.setIfInBounds_toArray, List.set_cons_zero, List.set_cons_succ]
                  refine wpPart_take (i := 31) (oi := { dst := some 121, op := Op.pick (Operand.tmp 104) (Operand.const (Value.bool true)) (Operand.tmp 120), type := 4, pos := "more.go:32", after := #[{ on := 14, ground := Ground.data }, { on := 30, ground := Ground.data }], guard := none }) (v := ?_) rfl (by kernel_rfl) (by kernel_rfl) (by kernel_rfl) (by kernel_rfl) (by kernel_rfl) (fun _ _ _ h => h) (Or.inl ⟨by rfl, ?_⟩) (by assumption) ?_
                  rotate_left
                  · intro w hSw; (try dsimp only at hSw); go_simp <;> with_reducible rfl
                  try simp only [Act.put, List.setIfInBounds_toArray, List.set_cons_zero, List.set_cons_succ]
                  refine wpPart_done (by kernel_rfl) ?_ _
                  have HRd := Lib.hid (hRk.out.quiet hHeld.2.2.2.2)
                  clear hHeld HK HC1 HC2
                  go_wp2
                  go_roundw
                  case rel => exact ⟨k + 1, by omega, by go_num, HRd⟩
                  case measure => simp [intOf]; omega
                · skip
                  have HC1 := Lib.hid (look_ahead hRk.out i k mi mk HMI.out HMK.out false (by rw [HEnd.out.ms.ahead k mk i HMK.out]; exact decide_eq_false (by omega)))
                  have HC2 := Lib.hid (look_can hRk.out HEnd.out h1 h2 HMK.out false (by exact decide_eq_false (by omega)))
                  have t1 : decide (i < k) = false := decide_eq_false (by omega)
                  have t2 : decide ((i : Int) < (k : Int)) = false := decide_eq_false (by omega)
                  have t3 : ((k : Int) == (i : Int)) = false := by rw [beq_eq_false_iff_ne]; omega
                  have t4 : (k == i) = false := by rw [beq_eq_false_iff_ne]; omega
                  go_wp2_with fail
                  refine wp_region_part (S := fun w' => w'.cell? ⟨b9, o9 + i * 2, none⟩ = some (.int .i64 (mi.frm : Int)) ∧ w'.cell? ⟨b9, o9 + i * 2 + 1, none⟩ = some (.int .u64 (mi.num : Int)) ∧ w'.cell? ⟨b9, o9 + k * 2, none⟩ = some (.int .i64 (mk.frm : Int)) ∧ w'.cell? ⟨b9, o9 + k * 2 + 1, none⟩ = some (.int .u64 (mk.num : Int)) ∧ Mod (fun _ => False) wr w') [] (by kernel_rfl) ?_ (fun hHeld => ?_)
                  · exact HK.out _ (Mod.refl _ _).drew
                  refine wpPart_take (i := 0) (oi := { dst := some 90, op := Op.move (Operand.tmp 5), type := 24, pos := "more.go:32", after := #[], guard := none }) (v := ?_) rfl (by kernel_rfl) (by kernel_rfl) (by kernel_rfl) (by kernel_rfl) (by kernel_rfl) (fun _ _ _ h => h) (Or.inl ⟨by rfl, ?_⟩) (by assumption) ?_
                  rotate_left
                  · intro w hSw; (try dsimp only at hSw); go_simp <;> with_reducible rfl
                  try simp only [Act.put, List.setIfInBounds_toArray, List.set_cons_zero, List.set_cons_succ]
                  refine wpPart_take (i := 1) (oi := { dst := some 91, op := Op.move (Operand.tmp 8), type := 28, pos := "more.go:32", after := #[], guard := none }) (v := ?_) rfl (by kernel_rfl) (by kernel_rfl) (by kernel_rfl) (by kernel_rfl) (by kernel_rfl) (fun _ _ _ h => h) (Or.inl ⟨by rfl, ?_⟩) (by assumption) ?_
                  rotate_left
                  · intro w hSw; (try dsimp only at hSw); go_simp <;> with_reducible rfl
                  try simp only [Act.put, List.setIfInBounds_toArray, List.set_cons_zero, List.set_cons_succ]
                  refine wpPart_take (i := 2) (oi := { dst := some 92, op := Op.move (Operand.tmp 14), type := 3, pos := "more.go:32", after := #[], guard := none }) (v := ?_) rfl (by kernel_rfl) (by kernel_rfl) (by kernel_rfl) (by kernel_rfl) (by kernel_rfl) (fun _ _ _ h => h) (Or.inl ⟨by rfl, ?_⟩) (by assumption) ?_
                  rotate_left
                  · intro w hSw; (try dsimp only at hSw); go_simp <;> with_reducible rfl
                  try simp only [Act.put, List.setIfInBounds_toArray, List.set_cons_zero, List.set_cons_succ]
                  refine wpPart_take (i := 3) (oi := { dst := some 93, op := Op.indexAddr 28 (Operand.tmp 91) (Operand.tmp 92), type := 0, pos := "more.go:32", after := #[{ on := 1, ground := Ground.data }, { on := 2, ground := Ground.data }], guard := none }) (v := ?_) rfl (by kernel_rfl) (by kernel_rfl) (by kernel_rfl) (by kernel_rfl) (by kernel_rfl) (fun _ _ _ h => h) (Or.inl ⟨by rfl, ?_⟩) (by assumption) ?_
                  rotate_left
                  · intro w hSw; (try dsimp only at hSw); go_simp <;> with_reducible rfl
                  try simp only [Act.put, List.setIfInBounds_toArray, List.set_cons_zero, List.set_cons_succ]
                  refine wpPart_take (i := 4) (oi := { dst := some 94, op := Op.load 34 (Operand.tmp 93), type := 34, pos := "more.go:32", after := #[{ on := 3, ground := Ground.data }], guard := none }) (v := ?_) rfl (by kernel_rfl) (by kernel_rfl) (by kernel_rfl) (by kernel_rfl) (by kernel_rfl) (fun _ _ _ h => h) (Or.inl ⟨by rfl, ?_⟩) (by assumption) ?_
                  rotate_left
                  · intro w hSw; (try dsimp only at hSw); go_simp <;> with_reducible rfl
                  try simp only [Act.put, List.setIfInBounds_toArray, List.set_cons_zero, List.set_cons_succ]
                  refine wpPart_take (i := 5) (oi := { dst := some 95, op := Op.move (Operand.tmp 8), type := 28, pos := "more.go:32", after := #[], guard := none }) (v := ?_) rfl (by kernel_rfl) (by kernel_rfl) (by kernel_rfl) (by kernel_rfl) (by kernel_rfl) (fun _ _ _ h => h) (Or.inl ⟨by rfl, ?_⟩) (by assumption) ?_
                  rotate_left
                  · intro w hSw; (try dsimp only at hSw); go_simp <;> with_reducible rfl
                  try simp only [Act.put, List.setIfInBounds_toArray, List.set_cons_zero, List.set_cons_succ]
                  refine wpPart_take (i := 6) (oi := { dst := some 96, op := Op.move (Operand.tmp 15), type := 3, pos := "more.go:32", after := #[], guard := none }) (v := ?_) rfl (by kernel_rfl) (by kernel_rfl) (by kernel_rfl) (by kernel_rfl) (by kernel_rfl) (fun _ _ _ h => h) (Or.inl ⟨by rfl, ?_⟩) (by assumption) ?_
                  rotate_left
                  · intro w hSw; (try dsimp only at hSw); go_simp <;> with_reducible rfl
                  try simp only [Act.put, List.setIfInBounds_toArray, List.set_cons_zero, List.set_cons_succ]
                  refine wpPart_take (i := 7) (oi := { dst := some 97, op := Op.indexAddr 28 (Operand.tmp 95) (Operand.tmp 96), type := 0, pos := "more.go:32", after := #[{ on := 5, ground := Ground.data }, { on := 6, ground := Ground.data }], guard := none }) (v := ?_) rfl (by kernel_rfl) (by kernel_rfl) (by kernel_rfl) (by kernel_rfl) (by kernel_rfl) (fun _ _ _ h => h) (Or.inl ⟨by rfl, ?_⟩) (by assumption) ?_
                  rotate_left
                  · intro w hSw; (try dsimp only at hSw); go_simp <;> with_reducible rfl
                  try simp only [Act.put, List.setIfInBounds_toArray, List.set_cons_zero, List.set_cons_succ]
                  refine wpPart_take (i := 8) (oi := { dst := some 98, op := Op.load 34 (Operand.tmp 97), type := 34, pos := "more.go:32", after := #[{ on := 7, ground := Ground.data }], guard := none }) (v := ?_) rfl (by kernel_rfl) (by kernel_rfl) (by kernel_rfl) (by kernel_rfl) (by kernel_rfl) (fun _ _ _ h => h) (Or.inl ⟨by rfl, ?_⟩) (by assumption) ?_
                  rotate_left
                  · intro w hSw; (try dsimp only at hSw); go_simp <;> with_reducible rfl
                  try simp only [Act.put, List.setIfInBounds_toArray, List.set_cons_zero, List.set_cons_succ]
                  refine wpPart_take (i := 10) (oi := { dst := some 100, op := Op.move (Operand.tmp 14), type := 3, pos := "more.go:32", after := #[], guard := none }) (v := ?_) rfl (by kernel_rfl) (by kernel_rfl) (by kernel_rfl) (by kernel_rfl) (by kernel_rfl) (fun _ _ _ h => h) (Or.inl ⟨by rfl, ?_⟩) (by assumption) ?_
                  rotate_left
                  · intro w hSw; (try dsimp only at hSw); go_simp <;> with_reducible rfl
                  try simp only [Act.put, List.setIfInBounds_toArray, List.set_cons_zero, List.set_cons_succ]
                  refine wpPart_take (i := 11) (oi := { dst := some 101, op := Op.move (Operand.tmp 15), type := 3, pos := "more.go:32", after := #[], guard := none }) (v := ?_) rfl (by kernel_rfl) (by kernel_rfl) (by kernel_rfl) (by kernel_rfl) (by kernel_rfl) (fun _ _ _ h => h) (Or.inl ⟨by rfl, ?_⟩) (by assumption) ?_
                  rotate_left
                  · intro w hSw; (try dsimp only at hSw); go_simp <;> with_reducible rfl
                  try simp only [Act.put, List.setIfInBounds_toArray, List.set_cons_zero, List.set_cons_succ]
                  refine wpPart_take (i := 12) (oi := { dst := some 102, op := Op.binOp BinOp.lss 3 (Operand.tmp 100) (Operand.tmp 101) 3, type := 4, pos := "more.go:32", after := #[{ on := 10, ground := Ground.data }, { on := 11, ground := Ground.data }], guard := none }) (v := ?_) rfl (by kernel_rfl) (by kernel_rfl) (by kernel_rfl) (by kernel_rfl) (by kernel_rfl) (fun _ _ _ h => h) (Or.inl ⟨by rfl, ?_⟩) (by assumption) ?_
                  rotate_left
                  · intro w hSw; (try dsimp only at hSw); go_simp <;> with_reducible rfl
                  try simp only [Act.put, List.setIfInBounds_toArray, List.set_cons_zero, List.set_cons_succ]
                  refine wpPart_ready (rs := [9]) (by kernel_rfl) (by simp) ?_
                  refine AllPart.cons (o := { dst := some 99, op := Op.call { callee := Callee.value (Operand.func 13), args := #[Operand.tmp 90, Operand.tmp 94, Operand.tmp 98], argTypes := #[24, 34, 34] }, type := 4, pos := "more.go:32", after := #[{ on := 0, ground := Ground.data }, { on := 4, ground := Ground.data }, { on := 8, ground := Ground.data }], guard := none }) rfl (by kernel_rfl) (fun K hK => ?_) AllPart.nil
                  have hmz := hHeld.2.2.2.2
                  go_simp
                  go_at_call 13
                  refine (HC1.out _ hmz).mono ?_
                  rintro e w5 ⟨rfl, hm5⟩
                  refine hK.out _ _ ?_ (fun hHeld => ?_)
                  · exact HK.out _ hm5
                  clear hK K
                  try simp only [Act.put, List.setIfInBounds_toArray, List.set_cons_zero, List.set_cons_succ]
                  clear hmz hm5
                  refine wpPart_take (i := 13) (oi := { dst := some 103, op := Op.binOp BinOp.neq 4 (Operand.tmp 99) (Operand.tmp 102) 4, type := 4, pos := "more.go:32", after := #[{ on := 9, ground := Ground.data }, { on := 12, ground := Ground.data }], guard := none }) (v := ?_) rfl (by kernel_rfl) (by kernel_rfl) (by kernel_rfl) (by kernel_rfl) (by kernel_rfl) (fun _ _ _ h => h) (Or.inl ⟨by rfl, ?_⟩) (by assumption) ?_
                  rotate_left
                  · intro w hSw; (try dsimp only at hSw); go_simp <;> with_reducible rfl
                  try simp only [Act.put, List.setIfInBounds_toArray, List.set_cons_zero, List.set_cons_succ]
                  refine wpPart_take (i := 14) (oi := { dst := some 104, op := Op.move (Operand.tmp 103), type := 4, pos := "more.go:32", after := #[{ on := 13, ground := Ground.data }, { on := 9, ground := Ground.chain }], guard := none }) (v := ?_) rfl (by kernel_rfl) (by kernel_rfl) (by kernel_rfl) (by kernel_rfl) (by kernel_rfl) (fun _ _ _ h => h) (Or.inl ⟨by rfl, ?_⟩) (by assumption) ?_
                  rotate_left
                  · intro w hSw; (try dsimp only at hSw); go_simp <;> with_reducible rfl
                  try simp only [Act.put, List.setIfInBounds_toArray, List.set_cons_zero, List.set_cons_succ]
                  refine wpPart_take (i := 15) (oi := { dst := some 105, op := Op.move (Operand.tmp 5), type := 24, pos := "more.go:32", after := #[{ on := 14, ground := Ground.guard }], guard := some (14, false) }) (v := ?_) rfl (by kernel_rfl) (by kernel_rfl) (by kernel_rfl) (by kernel_rfl) (by kernel_rfl) (fun _ _ _ h => h) (Or.inl ⟨by rfl, ?_⟩) (by assumption) ?_
                  rotate_left
                  · intro w hSw; (try dsimp only at hSw); go_simp <;> with_reducible rfl
                  try simp only [Act.put, List.setIfInBounds_toArray, List.set_cons_zero, List.set_cons_succ]
                  refine wpPart_take (i := 16) (oi := { dst := some 106, op := Op.move (Operand.tmp 7), type := 3, pos := "more.go:32", after := #[{ on := 14, ground := Ground.guard }], guard := some (14, false) }) (v := ?_) rfl (by kernel_rfl) (by kernel_rfl) (by kernel_rfl) (by kernel_rfl) (by kernel_rfl) (fun _ _ _ h => h) (Or.inl ⟨by rfl, ?_⟩) (by assumption) ?_
                  rotate_left
                  · intro w hSw; (try dsimp only at hSw); go_simp <;> with_reducible rfl
                  try simp only [Act.put, List.setIfInBounds_toArray, List.set_cons_zero, List.set_cons_succ]
                  refine wpPart_take (i := 17) (oi := { dst := some 107, op := Op.move (Operand.tmp 8), type := 28, pos := "more.go:32", after := #[{ on := 14, ground := Ground.guard }], guard := some (14, false) }) (v := ?_) rfl (by kernel_rfl) (by kernel_rfl) (by kernel_rfl) (by kernel_rfl) (by kernel_rfl) (fun _ _ _ h => h) (Or.inl ⟨by rfl, ?_⟩) (by assumption) ?_
                  rotate_left
                  · intro w hSw; (try dsimp only at hSw); go_simp <;> with_reducible rfl
                  try simp only [Act.put, List.setIfInBounds_toArray, List.set_cons_zero, List.set_cons_succ]
                  refine wpPart_take (i := 18) (oi := { dst := some 108, op := Op.move (Operand.tmp 15), type := 3, pos := "more.go:32", after := #[{ on := 14, ground := Ground.guard }], guard := some (14, false) }) (v := ?_) rfl (by kernel_rfl) (by kernel_rfl) (by kernel_rfl) (by kernel_rfl) (by kernel_rfl) (fun _ _ _ h => h) (Or.inl ⟨by rfl, ?_⟩) (by assumption) ?_
                  rotate_left
                  · intro w hSw; (try dsimp only at hSw); go_simp <;> with_reducible rfl
                  try simp only [Act.put, List.setIfInBounds_toArray, List.set_cons_zero, List.set_cons_succ]
                  refine wpPart_take (i := 19) (oi := { dst := some 109, op := Op.indexAddr 28 (Operand.tmp 107) (Operand.tmp 108), type := 0, pos := "more.go:32", after := #[{ on := 17, ground := Ground.data }, { on := 18, ground := Ground.data }, { on := 14, ground := Ground.guard }], guard := some (14, false) }) (v := ?_) rfl (by kernel_rfl) (by kernel_rfl) (by kernel_rfl) (by kernel_rfl) (by kernel_rfl) (fun _ _ _ h => h) (Or.inl ⟨by rfl, ?_⟩) (by assumption) ?_
                  rotate_left
                  · intro w hSw; (try dsimp only at hSw); go_simp <;> with_reducible rfl
                  try simp only [Act.put, List.setIfInBounds_toArray, List.set_cons_zero, List.set_cons_succ]
                  refine wpPart_take (i := 20) (oi := { dst := some 110, op := Op.load 34 (Operand.tmp 109), type := 34, pos := "more.go:32", after := #[{ on := 19, ground := Ground.data }, { on := 14, ground := Ground.guard }], guard := some (14, false) }) (v := ?_) rfl (by kernel_rfl) (by kernel_rfl) (by kernel_rfl) (by kernel_rfl) (by kernel_rfl) (fun _ _ _ h => h) (Or.inl ⟨by rfl, ?_⟩) (by assumption) ?_
                  rotate_left
                  · intro w hSw; (try dsimp only at hSw); go_simp <;> with_reducible rfl
                  try simp only [Act.put, List.setIfInBounds_toArray, List.set_cons_zero, List.set_cons_succ]
                  refine wpPart_take (i := 22) (oi := { dst := some 112, op := Op.move (Operand.tmp 15), type := 3, pos := "more.go:32", after := #[{ on := 14, ground := Ground.guard }], guard := some (14, false) }) (v := ?_) rfl (by kernel_rfl) (by kernel_rfl) (by kernel_rfl) (by kernel_rfl) (by kernel_rfl) (fun _ _ _ h => h) (Or.inl ⟨by rfl, ?_⟩) (by assumption) ?_
                  rotate_left
                  · intro w hSw; (try dsimp only at hSw); go_simp <;> with_reducible rfl
                  try simp only [Act.put, List.setIfInBounds_toArray, List.set_cons_zero, List.set_cons_succ]
                  refine wpPart_take (i := 23) (oi := { dst := some 113, op := Op.move (Operand.tmp 14), type := 3, pos := "more.go:32", after := #[{ on := 14, ground := Ground.guard }], guard := some (14, false) }) (v := ?_) rfl (by kernel_rfl) (by kernel_rfl) (by kernel_rfl) (by kernel_rfl) (by kernel_rfl) (fun _ _ _ h => h) (Or.inl ⟨by rfl, ?_⟩) (by assumption) ?_
                  rotate_left
                  · intro w hSw; (try dsimp only at hSw); go_simp <;> with_reducible rfl
                  try simp only [Act.put, List.setIfInBounds_toArray, List.set_cons_zero, List.set_cons_succ]
                  refine wpPart_take (i := 24) (oi := { dst := some 114, op := Op.binOp BinOp.eql 3 (Operand.tmp 112) (Operand.tmp 113) 3, type := 4, pos := "more.go:32", after := #[{ on := 22, ground := Ground.data }, { on := 23, ground := Ground.data }, { on := 14, ground := Ground.guard }], guard := some (14, false) }) (v := ?_) rfl (by kernel_rfl) (by kernel_rfl) (by kernel_rfl) (by kernel_rfl) (by kernel_rfl) (fun _ _ _ h => h) (Or.inl ⟨by rfl, ?_⟩) (by assumption) ?_
                  rotate_left
                  · intro w hSw; (try dsimp only at hSw); go_simp <;> with_reducible rfl
                  try simp only [Act.put, List.setIfInBounds_toArray, List.set_cons_zero, List.set_cons_succ]
                  refine wpPart_ready (rs := [21]) (by kernel_rfl) (by simp) ?_
                  refine AllPart.cons (o := { dst := some 111, op := Op.call { callee := Callee.value (Operand.func 15), args := #[Operand.tmp 105, Operand.tmp 106, Operand.tmp 110], argTypes := #[24, 3, 34] }, type := 4, pos := "more.go:32", after := #[{ on := 15, ground := Ground.data }, { on := 16, ground := Ground.data }, { on := 20, ground := Ground.data }, { on := 14, ground := Ground.chain }, { on := 14, ground := Ground.guard }], guard := some (14, false) }) rfl (by kernel_rfl) (fun K hK => ?_) AllPart.nil
                  have hmz := hHeld.2.2.2.2
                  go_simp
                  go_at_call 15
                  refine (HC2.out _ hmz).mono ?_
                  rintro e w5 ⟨rfl, hm5⟩
                  refine hK.out _ _ ?_ (fun hHeld => ?_)
                  · exact HK.out _ hm5
                  clear hK K
                  try simp only [Act.put, List.setIfInBounds_toArray, List.set_cons_zero, List.set_cons_succ]
                  clear hmz hm5
                  refine wpPart_take (i := 25) (oi := { dst := some 115, op := Op.binOp BinOp.neq 4 (Operand.tmp 111) (Operand.tmp 114) 4, type := 4, pos := "more.go:32", after := #[{ on := 21, ground := Ground.data }, { on := 24, ground := Ground.data }, { on := 14, ground := Ground.guard }], guard := some (14, false) }) (v := ?_) rfl (by kernel_rfl) (by kernel_rfl) (by kernel_rfl) (by kernel_rfl) (by kernel_rfl) (fun _ _ _ h => h) (Or.inl ⟨by rfl, ?_⟩) (by assumption) ?_
                  rotate_left
                  · intro w hSw; (try dsimp only at hSw); go_simp <;> with_reducible rfl
                  try simp only [Act.put, List.setIfInBounds_toArray, List.set_cons_zero, List.set_cons_succ]
                  refine wpPart_take (i := 26) (oi := { dst := some 116, op := Op.move (Operand.tmp 115), type := 4, pos := "more.go:32", after := #[{ on := 25, ground := Ground.data }, { on := 21, ground := Ground.chain }, { on := 14, ground := Ground.guard }], guard := some (14, false) }) (v := ?_) rfl (by kernel_rfl) (by kernel_rfl) (by kernel_rfl) (by kernel_rfl) (by kernel_rfl) (fun _ _ _ h => h) (Or.inl ⟨by rfl, ?_⟩) (by assumption) ?_
                  rotate_left
                  · intro w hSw; (try dsimp only at hSw); go_simp <;> with_reducible rfl
                  try simp only [Act.put, List.setIfInBounds_toArray, List.set_cons_zero, List.set_cons_succ]
                  refine wpPart_take (i := 27) (oi := { dst := some 117, op := Op.move (Operand.tmp 15), type := 3, pos := "more.go:32", after := #[{ on := 26, ground := Ground.guard }], guard := some (26, true) }) (v := undef) rfl (by kernel_rfl) (by kernel_rfl) (by kernel_rfl) (by kernel_rfl) (by kernel_rfl) (fun _ _ _ h => h) (Or.inr ⟨by rfl, rfl⟩) (by assumption) ?_
                  try simp only [Act.put, List.setIfInBounds_toArray, List.set_cons_zero, List.set_cons_succ]
                  refine wpPart_take (i := 28) (oi := { dst := some 118, op := Op.move (Operand.tmp 14), type := 3, pos := "more.go:32", after := #[{ on := 26, ground := Ground.guard }], guard := some (26, true) }) (v := undef) rfl (by kernel_rfl) (by kernel_rfl) (by kernel_rfl) (by kernel_rfl) (by kernel_rfl) (fun _ _ _ h => h) (Or.inr ⟨by rfl, rfl⟩) (by assumption) ?_
                  try simp only [Act.put, List.setIfInBounds_toArray, List.set_cons_zero, List.set_cons_succ]
                  refine wpPart_take (i := 29) (oi := { dst := some 119, op := Op.binOp BinOp.geq 3 (Operand.tmp 117) (Operand.tmp 118) 3, type := 4, pos := "more.go:32", after := #[{ on := 27, ground := Ground.data }, { on := 28, ground := Ground.data }, { on := 26, ground := Ground.guard }], guard := some (26, true) }) (v := undef) rfl (by kernel_rfl) (by kernel_rfl) (by kernel_rfl) (by kernel_rfl) (by kernel_rfl) (fun _ _ _ h => h) (Or.inr ⟨by rfl, rfl⟩) (by assumption) ?_
                  try simp only [Act.put, List.setIfInBounds_toArray, List.set_cons_zero, List.set_cons_succ]
                  refine wpPart_take (i := 30) (oi := { dst := some 120, op := Op.pick (Operand.tmp 116) (Operand.tmp 119) (Operand.const (Value.bool false)), type := 4, pos := "more.go:32", after := #[{ on := 26, ground := Ground.data }, { on := 29, ground := Ground.data }, { on := 14, ground := Ground.guard }], guard := some (14, false) }) (v := ?_) rfl (by kernel_rfl) (by kernel_rfl) (by kernel_rfl) (by kernel_rfl) (by kernel_rfl) (fun _ _ _ h => h) (Or.inl ⟨by rfl, ?_⟩) (by assumption) ?_
                  rotate_left
                  · intro w hSw; (try dsimp only at hSw); go_simp <;> with_reducible rfl
                  try simp only [Act.put, List.setIfInBounds_toArray, List.set_cons_zero, List.set_cons_succ]
                  refine wpPart_take (i := 31) (oi := { dst := some 121, op := Op.pick (Operand.tmp 104) (Operand.const (Value.bool true)) (Operand.tmp 120), type := 4, pos := "more.go:32", after := #[{ on := 14, ground := Ground.data }, { on := 30, ground := Ground.data }], guard := none }) (v := ?_) rfl (by kernel_rfl) (by kernel_rfl) (by kernel_rfl) (by kernel_rfl) (by kernel_rfl) (fun _ _ _ h => h) (Or.inl ⟨by rfl, ?_⟩) (by assumption) ?_
                  rotate_left
                  · intro w hSw; (try dsimp only at hSw); go_simp <;> with_reducible rfl
                  try simp only [Act.put, List.setIfInBounds_toArray, List.set_cons_zero, List.set_cons_succ]
                  refine wpPart_done (by kernel_rfl) ?_ _
                  have HRd := Lib.hid (hRk.out.quiet hHeld.2.2.2.2)
                  clear hHeld HK HC1 HC2
                  go_wp2
                  go_roundw
                  case rel => exact ⟨k + 1, by omega, by go_num, HRd⟩
                  case measure => simp [intOf]; omega
            · have hge : ¬ (k : Int) < (many : Int) := by omega
              have HTk := Lib.hid (lives_take hRk.out.1 last i mi (by rw [HEnd.out.ms.n]; omega) HMI.out (by rw [HEnd.out.open hRk.out.1.at'.ok h1 h2 HMI.out]; exact decide_eq_true (Nat.le_refl _)))
              obtain ⟨_, _, hea, hca⟩ := look_cells hRk.out HMI.out
              cases hea
              obtain ⟨n0, n1⟩ := hca wr (Mod.refl _ _)
              have HO : Hid (Own w B s (.slice (some ⟨b9, o9, none⟩) s.allNames.length c9) s.allNames wr) := ⟨hRk.out.2, HAway.out⟩
              clear hca
              go_wp2_with fail
              refine HTk.out.mono ?_
              rintro e W5 ⟨v5, rfl, hL5, hh5, _⟩
              have HN : Hid (∃ s', Lives w B s' W5 ∧ ChainEnd s' last many (i + 1) ∧ Own w B s' (.slice (some ⟨b9, o9, none⟩) s.allNames.length c9) s'.allNames W5) := ⟨_, hL5, HEnd.out.step, HO.out.held hh5⟩
              clear hL5 hh5 HTk n0 n1
              go_wp2
              go_roundw
              case rel => exact ⟨i + 1, by omega, by go_num, HN⟩
              case measure => simp [intOf]; omega
        · obtain rfl : i = many := by omega
          have HTk := Lib.hid (taken_at B s last wo hs1.at' (by rw [hs2.ms.n]; omega))
          have HL := Lib.hid hs1
          have HNL : Hid ((s.names last).length = i) := by show _ = _; unfold Pa.names; rw [List.length_map, hs2.got, List.length_range]
          clear hR hs1 hs2 hs3
          go_wp2_with fail
          refine HTk.out.mono ?_
          rintro e W5 ⟨v5, rfl, hn5, hm5, _⟩
          have HE := Lib.hid (HL.out.quiet hm5).low
          obtain ⟨A5, c5, rfl⟩ := RowOf.form hn5
          rw [HNL.out]
          clear hn5 hm5 HTk
          go_wp2
          go_ret
          exact ⟨rfl, HE.out⟩
end Go.Proofs.Yteicceikaecfcaa
