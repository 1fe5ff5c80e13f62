/-
  The walk of ShipAgain.
-/
import Derived.Test.YtcgfbbfepopinaaShipN
namespace Go.Proofs.Ytcgfbbfepopinaa
open Go.RowKit Go.Shoal

theorem ItemsAt.elem {N : Nat → Prop} {w : World} {A : Option Addr} {c : Nat} {l : List It} (h : ItemsAt N w (.slice A l.length c) l) {k : Nat} {x : It} (hx : l[k]? = some x) :
    ∃ b o B cb, A = some ⟨b, o, none⟩ ∧ w.cell? ⟨b, o + k * 2, none⟩ = some (.int .u64 x.num) ∧ w.cell? ⟨b, o + k * 2 + 1, none⟩ = some (.slice B x.body.size cb) ∧ ∀ q, (convert 31 9 (.slice B x.body.size cb)).run Try.prog (w.drewN q) = .ok (.string x.body) (w.drewN q) := by
  obtain ⟨l', h1, h2, h3⟩ := h
  have hkl := (List.getElem?_eq_some_iff.1 hx).1
  obtain ⟨p, hp, hpx⟩ : ∃ p, l'[k]? = some p ∧ p.1 = x := by
    have hx' := hx
    rw [← h1, List.getElem?_map] at hx'
    cases hq : l'[k]? with
    | none => rw [hq] at hx'; cases hx'
    | some p => rw [hq] at hx'; exact ⟨p, rfl, by simpa using hx'⟩
  have hbody := h3 p (List.mem_of_getElem? hp)
  rw [hpx] at hbody
  obtain ⟨b, o, cap, cur, he, hcur, _, hcells⟩ := h2.at (by omega)
  obtain ⟨g0, g1⟩ := flat_get l' k p hp
  rw [hpx] at g0
  obtain ⟨B2, cb, hp2⟩ := hbody.1.form
  rw [hp2] at hbody g1
  cases he
  exact ⟨b, o, B2, cb, rfl, (blk_cell hcur _).trans ((hcells _ (by omega)).trans g0), (blk_cell hcur _).trans ((by rw [Nat.add_assoc]; exact hcells _ (by omega) : cur[o + k * 2 + 1]? = _).trans g1), fun q => conv_bytes (w := w.drewN q) hbody.1⟩
theorem sail_tick {base B pb : Nat} {w0 w : World} {s : Shp} {rs : List (Value × List It)} (h : Sails base B pb w0 s rs w) (hf : s.Fit) (ok : s.p.Ok) (hr : 0 ≤ s.p.rings ∧ s.p.rings ≤ 1000000) :
    Calls Try.prog 16 #[.pointer (some ⟨B, 0, none⟩)] w fun e w' => ∃ A c, e = .returned (.slice A (if s.p.tick.2 then s.out else []).length c) ∧ Sails base B pb w0 { s with p := s.p.tick.1 } ((.slice A (if s.p.tick.2 then s.out else []).length c, if s.p.tick.2 then s.out else []) :: rs) w' := by
  have hz := h.size
  obtain ⟨ov, wv, a1, a2, a3, a4⟩ := h
  refine (tick_any w B pb ov wv s a1 hf ok hr).mono fun e w' hT => ?_
  obtain ⟨v, he, b1, b2, b3, b4⟩ := hT
  obtain ⟨A, c, rfl⟩ : ∃ A c, v = .slice A (if s.p.tick.2 then s.out else []).length c := by
    obtain ⟨l', _, hr, _⟩ := b3
    exact hr.form
  have hlt := a1.foot_lt
  refine ⟨A, c, he, ov, wv, b1, a2, a3.trans (b2.below (fun i hi e => by subst e; have := a2 i (.inr (.inl rfl)); omega) hz), fun r hr => ?_⟩
  rcases List.mem_cons.1 hr with rfl | hr
  · exact ⟨b3.mono (fun q _ hq hF => by have := hlt q hF; omega), fun q hq hF => by have := hlt q hF; have := b4 q hq; omega⟩
  · exact (a4 r hr).mod b2 (fun q e => .inr (.inl e))
theorem filled_ok {s : Shp} (h : s.p.Ok) : s.filled.p.Ok := by
  show (if (s.fillN s.goes).out = [] then s.p else s.p.start).Ok
  split
  · exact h
  · exact Pc.start_ok h
theorem filled_rings {s : Shp} : s.filled.p.rings = s.p.rings := by
  show (if (s.fillN s.goes).out = [] then s.p else s.p.start).rings = _
  split
  · rfl
  · exact start_rings _
/-- While ShipAgain pushes. -/
def AgainSt (base B pb : Nat) (w1 : World) (n : Nat) (s : Shp) (wr : World) : Prop :=
  Sails base B pb w1 s [] wr ∧ s.Inv ∧ s.win = 4 ∧ s.que = 8 ∧ s.last + s.waits.length = n ∧ s.out.length + s.waits.length = n ∧ s.p.Ok ∧ s.p.rings = 0
/-- While it ticks. -/
def TickSt (base B pb : Nat) (w1 : World) (s0 : Shp) (rs : List (Value × List It)) (i : Nat) (p : Pc) (wr : World) : Prop :=
  Sails base B pb w1 { s0 with p := p } rs wr ∧ p.Ok ∧ 0 ≤ p.rings ∧ p.rings ≤ i
set_option maxHeartbeats 1000000 in
theorem again_out (n : Int) (v : Value) (l : List ByteArray) (w : World) (hz : Strs w v l) (h : l.length < 1 ∨ (1 ≤ l.length ∧ 10 < l.length) ∨ (1 ≤ l.length ∧ l.length ≤ 10 ∧ n < 1) ∨ (1 ≤ l.length ∧ l.length ≤ 10 ∧ 1 ≤ n ∧ 40 < n)) :
    Calls Try.prog 5 #[v, .int .i64 n] w fun e w' => e = .returned (.bool true) ∧ Below w.heap.size w w' := by
  obtain ⟨A, c, rfl, hl, _⟩ := hz
  unfold maxLen at hl
  have HA := Lib.hid (awake_any w)
  rcases h with h | ⟨h, h1⟩ | ⟨h, h1, h2⟩ | ⟨h, h1, h2, h3⟩
  · have t1 : decide ((l.length : Int) < 1) = true := decide_eq_true (by omega)
    clear h hl
    go_enter Try.func5, Try.ntmps5
    go_wp2_with fail
    refine HA.out.mono ?_
    rintro e w1 ⟨rfl, hm⟩
    have HM := Lib.hid hm
    clear hm
    go_wp2
    go_ret
    exact ⟨rfl, HM.out⟩
  · have t1 : decide ((l.length : Int) < 1) = false := decide_eq_false (by omega)
    have t2 : decide (10 < (l.length : Int)) = true := decide_eq_true (by omega)
    clear h hl
    go_enter Try.func5, Try.ntmps5
    go_wp2_with fail
    refine HA.out.mono ?_
    rintro e w1 ⟨rfl, hm⟩
    have HM := Lib.hid hm
    clear hm
    go_wp2
    go_ret
    exact ⟨rfl, HM.out⟩
  all_goals
    have t1 : decide ((l.length : Int) < 1) = false := decide_eq_false (by omega)
    have t2 : decide (10 < (l.length : Int)) = false := decide_eq_false (by omega)
    clear h hl
    go_enter Try.func5, Try.ntmps5
    go_wp2_with fail
    refine HA.out.mono ?_
    rintro e w1 ⟨rfl, hm⟩
    have HM := Lib.hid hm
    clear hm
    go_wp2
    go_ret
    exact ⟨rfl, HM.out⟩
set_option maxRecDepth 100000 in
set_option maxHeartbeats 4000000 in
theorem again_in (n : Nat) (v : Value) (l : List ByteArray) (w : World) (hz : Strs w v l) (h1 : 1 ≤ l.length) (h2 : l.length ≤ 10) (h3 : 1 ≤ n) (h4 : n ≤ 40) :
    Calls Try.prog 5 #[v, .int .i64 n] w fun e w' => e = .returned (.bool true) ∧ Below w.heap.size w w' := by
  obtain ⟨A, c, rfl, hl, _, hz⟩ := hz
  have HA := Lib.hid (awake_any w)
  have t1 : decide ((l.length : Int) < 1) = false := decide_eq_false (by omega)
  have t2 : decide (10 < (l.length : Int)) = false := decide_eq_false (by omega)
  have t3 : decide ((n : Int) < 1) = false := decide_eq_false (by omega)
  have t4 : decide (40 < (n : Int)) = false := decide_eq_false (by omega)
  have HZ := Lib.hid hz
  clear hz hl
  go_enter Try.func5, Try.ntmps5
  go_wp2_with fail
  refine HA.out.mono ?_
  rintro e w1 ⟨rfl, hm⟩
  have HM := Lib.hid hm
  have HN := Lib.hid (sail_new 4 8 1 4 w1 (by decide) (by decide) (by decide) (by decide) (by decide) (by decide) (by decide))
  clear hm HA
  go_wp2_with fail
  refine HN.out.mono ?_
  rintro e w2 ⟨rfl, hs⟩
  have H0 : Hid (AgainSt w1.heap.size (w1.heap.size + 1) w1.heap.size w1 0 (Shp.new 4 8 1 4) w2) := ⟨hs, Shp.Inv.new _ _ _ _, rfl, rfl, rfl, rfl, ⟨by decide, by decide, by decide, by decide, by decide, by decide⟩, rfl⟩
  have HBASE : Hid (w.heap.size ≤ w1.heap.size) := HM.out.size
  clear hs HN
  generalize w1.heap.size + 1 = B at *
  generalize w1.heap.size = base at *
  go_wp2
  go_loopw [7] (fun i wr => ∃ (k : Nat) (s : Shp), k ≤ l.length ∧ i = .int .i64 k ∧ Hid (AgainSt base B base w1 k s wr)) (fun i _ => l.length - (intOf i).toNat)
  case atStart => exact ⟨0, _, Nat.zero_le _, rfl, H0⟩
  case round =>
    obtain ⟨k, s, hk, rfl, hD⟩ := hrel
    have HBW : Hid (Below w.heap.size w wr) := by
      obtain ⟨⟨_, _, _, _, hB, _⟩, _⟩ := hD.out
      exact below_of' HM.out hB HBASE.out
    by_cases hlt : k < l.length
    · obtain ⟨b, o, rfl, hb, hc⟩ := ElemsIn.cell HZ.out HBW.out k hlt
      have hi : (k : Int) < l.length := by omega
      have hi0 : (0 : Int) ≤ (k : Int) := by omega
      obtain ⟨x, hx⟩ : ∃ x, l.getD k default = x := ⟨_, rfl⟩
      have k0 := hc 0 (.string x) (by rw [hx]; rfl)
      rw [Nat.mul_one, Nat.add_zero] at k0
      clear hc hx hb
      by_cases hsz : x.size ≤ 50
      · have tz : decide ((50 : Int) < (x.size : Int)) = false := decide_eq_false (by omega)
        obtain ⟨v1, W1, hrun, hm1, hsrc⟩ := conv_string wr x
        obtain ⟨a1, a2, a3, a4, a5, a6, a7, a8⟩ := hD.out
        have hwl : s.waits.length < 7 := by
          have hfull := a2.full
          cases hw : s.waits with
          | nil => simp
          | cons y r =>
            have := hfull (by rw [hw]; simp)
            rw [hw] at a6
            simp only [List.length_cons] at a6 ⊢
            omega
        have hroom : s.room false = true := by
          show decide (s.waits.length + 1 < s.que) = true
          exact decide_eq_true (by omega)
        have HP := Lib.hid (sail_push (a1.none' hm1) v1 false x (a2.fit (by omega) (by omega) (by omega)) ⟨by omega, by omega⟩ (by omega) hroom hsrc (by omega))
        have HNx : Hid (∀ v5 w5, Sails base B base w1 (s.put x).filled [(v5, (s.put x).news)] w5 → AgainSt base B base w1 (k + 1) (s.put x).filled w5) := fun v5 w5 h5 => by
          have hs := (s.put x).filled_sums
          have hpl : (s.put x).waits.length = s.waits.length + 1 := by show (s.waits ++ [x]).length = _; simp
          have hpo : (s.put x).out = s.out := rfl
          have hpla : (s.put x).last = s.last := rfl
          exact ⟨h5.less (fun r hr => by cases hr), a2.put hsz (by omega), hs.2.2.1.trans a3, hs.2.2.2.1.trans a4, by omega, by rw [hpo] at hs; omega, filled_ok a7, filled_rings.trans a8⟩
        clear a1 a2 a3 a4 a5 a6 a7 a8 hwl hroom hm1 hsrc hsz
        go_wp2_with fail
        refine HP.out.mono ?_
        rintro e w5 ⟨v5, rfl, hs5⟩
        have HN5 := Lib.hid (HNx.out v5 w5 hs5)
        clear hs5 HNx HP hrun
        go_wp2
        go_roundw
        case rel => exact ⟨k + 1, _, by omega, by go_num, HN5⟩
        case measure => simp [intOf]; omega
      · have tz : decide ((50 : Int) < (x.size : Int)) = true := decide_eq_true (by omega)
        clear hsz
        go_wp2
        go_ret
        exact ⟨rfl, HBW.out⟩
    · obtain rfl : k = l.length := by omega
      have ti : decide ((l.length : Int) < (l.length : Int)) = false := decide_eq_false (by omega)
      obtain ⟨a1, a2, a3, a4, a5, a6, a7, a8⟩ := hD.out
      have HFitF : Hid (∀ p : Pc, ({ s with p := p } : Shp).Fit) := fun p => a2.fit (by omega) (by omega) (by omega)
      have HO := Lib.hid (sail_out a1 (HFitF.out s.p))
      have HOK : Hid (s.p.Ok ∧ s.p.rings = 0) := ⟨a7, a8⟩
      have HLEN : Hid (s.out.length ≤ 10) := by
        show s.out.length ≤ 10
        omega
      have HPOS : Hid (0 < s.out.length) := by
        have hfull := a2.full
        show 0 < s.out.length
        cases hw : s.waits with
        | nil =>
          rw [hw] at a6
          simp only [List.length_nil] at a6
          omega
        | cons y r =>
          have := hfull (by rw [hw]; simp)
          omega
      clear a1 a2 a3 a4 a5 a6 a7 a8
      go_wp2_with fail
      refine HO.out.mono ?_
      rintro e w5 ⟨Aw, cw, rfl, hs5⟩
      have HW5 := Lib.hid (sail_waits hs5 (HFitF.out s.p))
      clear hs5 HO ti
      go_wp2_with fail
      refine HW5.out.mono ?_
      rintro e w6 ⟨A6, c6, rfl, hs6⟩
      have HT0 : Hid (TickSt base B base w1 s [(.slice Aw s.out.length cw, s.out)] 0 s.p w6) := ⟨hs6, HOK.out.1, by have := HOK.out.2; omega, by have := HOK.out.2; omega⟩
      clear hs6 HW5
      go_wp2
      go_loopw [10] (fun i wr => ∃ (j : Nat) (p : Pc), j ≤ n ∧ i = .int .i64 j ∧ Hid (TickSt base B base w1 s [(.slice Aw s.out.length cw, s.out)] j p wr)) (fun i _ => n - (intOf i).toNat)
      case atStart => exact ⟨0, _, Nat.zero_le _, rfl, HT0⟩
      case round =>
        obtain ⟨j, p, hj, rfl, hE⟩ := hrel
        obtain ⟨a1, a2, a3, a4⟩ := hE.out
        have HBW2 : Hid (Below w.heap.size w wr) := by
          obtain ⟨_, _, _, _, hB, _⟩ := a1
          exact below_of' HM.out hB HBASE.out
        by_cases hjn : j < n
        · have tj : decide ((j : Int) < (n : Int)) = true := decide_eq_true (by omega)
          have HT := sail_tick a1 (HFitF.out p) a2 ⟨a3, by show p.rings ≤ 1000000; omega⟩
          have htr := @tick_rings p
          have HPN : Hid (p.tick.1.Ok ∧ 0 ≤ p.tick.1.rings ∧ p.tick.1.rings ≤ ((j + 1 : Nat) : Int)) := ⟨Pc.tick_ok a2, by omega, by omega⟩
          clear a1 a2 a3 a4 htr
          dsimp only at HT
          cases htk : p.tick.2
          · rw [htk] at HT
            simp only [Bool.false_eq_true, if_false, List.length_nil] at HT
            have HT' := Lib.hid HT
            have HTK := Lib.hid htk
            clear HT htk
            go_wp2_with fail
            refine HT'.out.mono ?_
            rintro e w7 ⟨Ag, cg, rfl, hs7⟩
            have HS7 := Lib.hid (hs7.less (rs' := [(.slice Aw s.out.length cw, s.out)]) (fun r hr => List.mem_cons_of_mem _ hr))
            clear hs7
            go_wp2
            refine wp_loop_rounds 1 ?_
            rw [rounds_succ]
            have HOt := Lib.hid (sail_out HS7.out (HFitF.out _))
            go_wp2_with fail
            refine HOt.out.mono ?_
            rintro e w8 ⟨A8, c8, rfl, hs8⟩
            have HWt := Lib.hid (sail_waits hs8 (HFitF.out _))
            clear hs8
            go_wp2_with fail
            refine HWt.out.mono ?_
            rintro e w9 ⟨A9, c9, rfl, hs9⟩
            have HR : Hid (TickSt base B base w1 s [(.slice Aw s.out.length cw, s.out)] (j + 1) p.tick.1 w9) := ⟨hs9.less (fun r hr => List.mem_cons_of_mem _ hr), HPN.out.1, HPN.out.2.1, HPN.out.2.2⟩
            clear hs9
            go_wp2
            go_roundw
            case rel => exact ⟨j + 1, _, by omega, by go_num, HR⟩
            case measure => simp [intOf]; omega
          · rw [htk] at HT
            simp only [if_true] at HT
            have HT' := Lib.hid HT
            have HTK := Lib.hid htk
            clear HT htk
            have tq : ((s.out.length : Int) != (s.out.length : Int)) = false := by simp
            go_wp2_with fail
            refine HT'.out.mono ?_
            rintro e w7 ⟨Ag, cg, rfl, hs7⟩
            have HS7a := Lib.hid hs7
            clear hs7
            have hpos : 0 < s.out.length := HPOS.out
            have hb0 : ((s.out.length : Int) != 0) = true := by rw [bne_iff_ne]; omega
            clear hpos
            go_wp2
            go_loopw [12] (fun i wr => ∃ k : Nat, k ≤ s.out.length ∧ i = .int .i64 k ∧ Hid (∃ m, wr = w7.drewN m)) (fun i _ => s.out.length - (intOf i).toNat)
            case atStart => exact ⟨0, Nat.zero_le _, rfl, ⟨0, rfl⟩⟩
            case round =>
              obtain ⟨k, hk, rfl, hW⟩ := hrel
              by_cases hlt : k < s.out.length
              · obtain ⟨x, hx⟩ : ∃ x, s.out[k]? = some x := ⟨_, List.getElem?_eq_getElem hlt⟩
                obtain ⟨m, hm⟩ := hW.out
                obtain ⟨Ng, hIg⟩ := HS7a.out.safe (r := (.slice Ag s.out.length cg, s.out)) List.mem_cons_self
                obtain ⟨Nw, hIw⟩ := HS7a.out.safe (r := (.slice Aw s.out.length cw, s.out)) (List.mem_cons_of_mem _ List.mem_cons_self)
                have hIg' : ItemsAt Ng wr (.slice Ag s.out.length cg) s.out := by rw [hm]; exact hIg
                have hIw' : ItemsAt Nw wr (.slice Aw s.out.length cw) s.out := by rw [hm]; exact hIw
                obtain ⟨b1, o1, B1, cb1, hA1, e0, e1, hc1⟩ := hIg'.elem hx
                obtain ⟨b2, o2, B2, cb2, hA2, e2, e3, hc2⟩ := hIw'.elem hx
                subst hA1
                subst hA2
                have hi : (k : Int) < s.out.length := by omega
                have hi0 : (0 : Int) ≤ (k : Int) := by omega
                have hi9 : (k : Int) < 10 := by
                  have := HLEN.out
                  omega
                have HW : Hid (∀ q, ∃ m, wr.drewN q = w7.drewN m) := fun q => ⟨m + q, by rw [hm, World.drewN_drewN]⟩
                clear hx hm hIg hIw hIg' hIw'
                go_wp2_with fail
                go_quiet (fail)
                go_wp2
                go_roundw
                case rel => exact ⟨k + 1, by omega, by go_num, HW.out _⟩
                case measure => simp [intOf]; omega
              · have HS7 : Hid (Sails base B base w1 { s with p := p.tick.1 } [(.slice Aw s.out.length cw, s.out)] wr) := by
                  obtain ⟨m, hm⟩ := hW.out
                  rw [hm]
                  exact (HS7a.out.less (fun r hr => List.mem_cons_of_mem _ hr)).none' ((Mod.refl _ _).drewN m)
                have HOt := Lib.hid (sail_out HS7.out (HFitF.out _))
                go_wp2_with fail
                refine HOt.out.mono ?_
                rintro e w8 ⟨A8, c8, rfl, hs8⟩
                have HWt := Lib.hid (sail_waits hs8 (HFitF.out _))
                clear hs8
                go_wp2_with fail
                refine HWt.out.mono ?_
                rintro e w9 ⟨A9, c9, rfl, hs9⟩
                have HR : Hid (TickSt base B base w1 s [(.slice Aw s.out.length cw, s.out)] (j + 1) p.tick.1 w9) := ⟨hs9.less (fun r hr => List.mem_cons_of_mem _ hr), HPN.out.1, HPN.out.2.1, HPN.out.2.2⟩
                clear hs9
                go_wp2
                go_roundw
                case rel => exact ⟨j + 1, _, by omega, by go_num, HR⟩
                case measure => simp [intOf]; omega
        · have tj : decide ((j : Int) < (n : Int)) = false := decide_eq_false (by omega)
          go_wp2
          go_ret
          exact ⟨rfl, HBW2.out⟩
theorem again_any (n : Int) (v : Value) (l : List ByteArray) (w : World) (hz : Strs w v l) :
    Calls Try.prog 5 #[v, .int .i64 n] w fun e w' => e = .returned (.bool true) ∧ Below w.heap.size w w' := by
  by_cases h : l.length < 1 ∨ (1 ≤ l.length ∧ 10 < l.length) ∨ (1 ≤ l.length ∧ l.length ≤ 10 ∧ n < 1) ∨ (1 ≤ l.length ∧ l.length ≤ 10 ∧ 1 ≤ n ∧ 40 < n)
  · exact again_out n v l w hz h
  · obtain ⟨m, rfl⟩ := Int.eq_ofNat_of_zero_le (show 0 ≤ n by omega)
    exact again_in m v l w hz (by omega) (by omega) (by omega) (by omega)
theorem again_walk {H : Type} {enc : TypeId × Value → H} {b0 : Nat} {d : DataW H} {ps : List MemPlace} (W : World) (v : Value) (hok : Value.okWide Try.prog W .any b0 22 v)
    (h : DataW.Trod enc Try.prog W 0 (fun _ => true) true 22 v d ps) (n : Int) (_ : (Lit.int .i64 n).wf = true) : Calls Try.prog 5 #[v, .int .i64 n] W fun e w' => e = .returned (.bool true) ∧ Below W.heap.size W w' := by
  obtain ⟨l, hz⟩ := open_rows (C := 1) (cells := strCells) (fit := fun s => s.size ≤ maxLen) Try.underlying22 (show Try.prog.cellsOf 9 = 1 by kernel_rfl) (by decide) str_of hok h
  exact again_any n v l W hz
end Go.Proofs.Ytcgfbbfepopinaa
