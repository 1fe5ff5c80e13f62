/-
  The walk of ShipPlays.
-/
import Derived.Test.YtcgfbbfepopinaaShipX
import Derived.Deep.RegionHeld3
import Derived.Deep.DeepCutAuto
import Derived.Deep.CutBlock
namespace Go.Proofs.Ytcgfbbfepopinaa
open Go.RowKit Go.Shoal

def Bad (win que f m : Int) : Prop := win < 1 ∨ 16 < win ∨ que < 2 ∨ 32 < que ∨ f < 1 ∨ m < f ∨ 1000 < m
set_option maxRecDepth 100000 in
set_option maxHeartbeats 2000000 in
theorem plays_out (win que f m : Int) (v : Value) (w : World) (h : Bad win que f m) :
    Calls Try.prog 7 #[.int .i64 win, .int .i64 que, .int .i64 f, .int .i64 m, v] w fun e w' => e = .returned (.bool true) ∧ Below w.heap.size w w' := by
  have HA := Lib.hid (awake_any w)
  have HN : Hid (∀ W, Calls Try.prog 9 #[.int .i64 win, .int .i64 que, .int .i64 f, .int .i64 m] W fun e w' => e = .returned (.tuple #[.pointer none, .int .i64 1]) ∧ Mod (fun _ => False) W w') := Lib.hid fun W => new_no win que f m W h
  by_cases h0 : win < 1
  · have t0 : decide (win < 1) = true := decide_eq_true h0
    clear h h0
    go_enter Try.func7, Try.ntmps7
    go_wp2_with fail
    refine HA.out.mono ?_
    rintro e w1 ⟨rfl, hm⟩
    have HM := Lib.hid hm
    clear hm
    go_wp2_with fail
    refine (HN.out _).mono ?_
    rintro e w2 ⟨rfl, hm⟩
    have HM2 : Hid (Below w.heap.size w w2) := HM.out.trans (hm.below (fun _ _ x => x) HM.out.size)
    clear hm
    go_wp2
    go_ret
    exact ⟨rfl, HM2.out⟩
  have t0 : decide (win < 1) = false := decide_eq_false h0
  by_cases h1 : 16 < win
  · have t1 : decide (16 < win) = true := decide_eq_true h1
    clear h h0 h1
    go_enter Try.func7, Try.ntmps7
    go_wp2_with fail
    refine HA.out.mono ?_
    rintro e w1 ⟨rfl, hm⟩
    have HM := Lib.hid hm
    clear hm
    go_wp2_with fail
    refine (HN.out _).mono ?_
    rintro e w2 ⟨rfl, hm⟩
    have HM2 : Hid (Below w.heap.size w w2) := HM.out.trans (hm.below (fun _ _ x => x) HM.out.size)
    clear hm
    go_wp2
    go_ret
    exact ⟨rfl, HM2.out⟩
  have t1 : decide (16 < win) = false := decide_eq_false h1
  by_cases h2 : que < 2
  · have t2 : decide (que < 2) = true := decide_eq_true h2
    clear h h0 h1 h2
    go_enter Try.func7, Try.ntmps7
    go_wp2_with fail
    refine HA.out.mono ?_
    rintro e w1 ⟨rfl, hm⟩
    have HM := Lib.hid hm
    clear hm
    go_wp2_with fail
    refine (HN.out _).mono ?_
    rintro e w2 ⟨rfl, hm⟩
    have HM2 : Hid (Below w.heap.size w w2) := HM.out.trans (hm.below (fun _ _ x => x) HM.out.size)
    clear hm
    go_wp2
    go_ret
    exact ⟨rfl, HM2.out⟩
  have t2 : decide (que < 2) = false := decide_eq_false h2
  by_cases h3 : 32 < que
  · have t3 : decide (32 < que) = true := decide_eq_true h3
    clear h h0 h1 h2 h3
    go_enter Try.func7, Try.ntmps7
    go_wp2_with fail
    refine HA.out.mono ?_
    rintro e w1 ⟨rfl, hm⟩
    have HM := Lib.hid hm
    clear hm
    go_wp2_with fail
    refine (HN.out _).mono ?_
    rintro e w2 ⟨rfl, hm⟩
    have HM2 : Hid (Below w.heap.size w w2) := HM.out.trans (hm.below (fun _ _ x => x) HM.out.size)
    clear hm
    go_wp2
    go_ret
    exact ⟨rfl, HM2.out⟩
  have t3 : decide (32 < que) = false := decide_eq_false h3
  by_cases h4 : f < 1
  · have t4 : decide (f < 1) = true := decide_eq_true h4
    clear h h0 h1 h2 h3 h4
    go_enter Try.func7, Try.ntmps7
    go_wp2_with fail
    refine HA.out.mono ?_
    rintro e w1 ⟨rfl, hm⟩
    have HM := Lib.hid hm
    clear hm
    go_wp2_with fail
    refine (HN.out _).mono ?_
    rintro e w2 ⟨rfl, hm⟩
    have HM2 : Hid (Below w.heap.size w w2) := HM.out.trans (hm.below (fun _ _ x => x) HM.out.size)
    clear hm
    go_wp2
    go_ret
    exact ⟨rfl, HM2.out⟩
  have t4 : decide (f < 1) = false := decide_eq_false h4
  by_cases h5 : m < f
  · have t5 : decide (m < f) = true := decide_eq_true h5
    clear h h0 h1 h2 h3 h4 h5
    go_enter Try.func7, Try.ntmps7
    go_wp2_with fail
    refine HA.out.mono ?_
    rintro e w1 ⟨rfl, hm⟩
    have HM := Lib.hid hm
    clear hm
    go_wp2_with fail
    refine (HN.out _).mono ?_
    rintro e w2 ⟨rfl, hm⟩
    have HM2 : Hid (Below w.heap.size w w2) := HM.out.trans (hm.below (fun _ _ x => x) HM.out.size)
    clear hm
    go_wp2
    go_ret
    exact ⟨rfl, HM2.out⟩
  have t5 : decide (m < f) = false := decide_eq_false h5
  by_cases h6 : 1000 < m
  · have t6 : decide (1000 < m) = true := decide_eq_true h6
    clear h h0 h1 h2 h3 h4 h5 h6
    go_enter Try.func7, Try.ntmps7
    go_wp2_with fail
    refine HA.out.mono ?_
    rintro e w1 ⟨rfl, hm⟩
    have HM := Lib.hid hm
    clear hm
    go_wp2_with fail
    refine (HN.out _).mono ?_
    rintro e w2 ⟨rfl, hm⟩
    have HM2 : Hid (Below w.heap.size w w2) := HM.out.trans (hm.below (fun _ _ x => x) HM.out.size)
    clear hm
    go_wp2
    go_ret
    exact ⟨rfl, HM2.out⟩
  have t6 : decide (1000 < m) = false := decide_eq_false h6
  exact (by rcases h with h | h | h | h | h | h | h <;> contradiction)
def PlR (base B R pr : Nat) (w1 : World) (win que k : Nat) (wr : World) : Prop := ∃ s, PlW base B R pr w1 s wr ∧ PlSt win que k s
set_option maxRecDepth 100000 in
set_option maxHeartbeats 80000000 in
theorem plays_in (win que : Nat) (f m : Int) (v : Value) (l : List ActS) (w : World) (hz : ActsS w v l) (h1 : 1 ≤ win) (h2 : win ≤ 16) (h3 : 2 ≤ que) (h4 : que ≤ 32) (h5 : 1 ≤ f) (h6 : f ≤ m) (h7 : m ≤ 1000) :
    Calls Try.prog 7 #[.int .i64 win, .int .i64 que, .int .i64 f, .int .i64 m, v] w fun e w' => e = .returned (.bool true) ∧ Below w.heap.size w w' := by
  obtain ⟨A0, c0, rfl, hl, _, hz⟩ := hz
  unfold maxLen at hl
  have HA := Lib.hid (awake_any w)
  have t1 : decide ((win : Int) < 1) = false := decide_eq_false (by omega)
  have t2 : decide (16 < (win : Int)) = false := decide_eq_false (by omega)
  have t3 : decide ((que : Int) < 2) = false := decide_eq_false (by omega)
  have t4 : decide (32 < (que : Int)) = false := decide_eq_false (by omega)
  have t5 : decide (f < 1) = false := decide_eq_false (by omega)
  have t6 : decide (m < f) = false := decide_eq_false (by omega)
  have t7 : decide (1000 < m) = false := decide_eq_false (by omega)
  have HZ := Lib.hid hz
  clear hz
  go_enter Try.func7, Try.ntmps7
  go_wp2_with fail
  refine HA.out.mono ?_
  rintro e w1 ⟨rfl, hm⟩
  have HM := Lib.hid hm
  have HN := Lib.hid (sail_new win que f m w1 h1 h2 h3 h4 h5 h6 h7)
  clear hm HA
  go_wp2_with fail
  refine HN.out.mono ?_
  rintro e w2 ⟨rfl, hs⟩
  have HS2 := Lib.hid hs
  clear hs HN
  by_cases h100 : 100 < l.length
  · have t8 : decide (100 < (l.length : Int)) = true := decide_eq_true (by omega)
    have HB : Hid (Below w.heap.size w w2) := by
      obtain ⟨_, _, _, _, hB, _⟩ := HS2.out
      exact below_of' HM.out hB HM.out.size
    go_wp2
    go_ret
    exact ⟨rfl, HB.out⟩
  have t8 : decide (100 < (l.length : Int)) = false := decide_eq_false (by omega)
  have HRN := Lib.hid (rnew_any win que f m w2)
  go_wp2_with fail
  refine HRN.out.mono ?_
  rintro e w3 ⟨R, pr, rfl, hr, hm, hR, hpr⟩
  have H0 : Hid (PlR w1.heap.size (w1.heap.size + 1) R pr w1 win que 0 w3) := ⟨_, ⟨HS2.out.none' hm, hr, Nat.le_trans HS2.out.size hR, Nat.le_trans HS2.out.size hpr⟩, PlSt.new win que f m h5 h6 h7⟩
  have HBASE : Hid (w.heap.size ≤ w1.heap.size) := HM.out.size
  clear hr hm hR hpr HRN HS2 t1 t2 t3 t4 t5 t6 t7
  generalize w1.heap.size + 1 = B at *
  generalize w1.heap.size = base at *
  go_wp2
  go_loopw [14] (fun i wr => ∃ k : Nat, k ≤ l.length ∧ i = .int .i64 k ∧ Hid (PlR base B R pr w1 win que k wr)) (fun i _ => l.length - (intOf i).toNat)
  case atStart => exact ⟨0, Nat.zero_le _, rfl, H0⟩
  case round =>
    obtain ⟨k, hk, rfl, hD⟩ := hrel
    have HBW : Hid (Below w.heap.size w wr) := by
      obtain ⟨_, ⟨⟨_, _, _, _, hB, _⟩, _, _, _⟩, _⟩ := hD.out
      exact below_of' HM.out hB HBASE.out
    by_cases hlt : k < l.length
    · obtain ⟨b, o, rfl, hb, hc⟩ := ElemsIn.cell HZ.out HBW.out k hlt
      have hi : (k : Int) < l.length := by omega
      have hi0 : (0 : Int) ≤ (k : Int) := by omega
      have tk : decide (k < l.length) = true := decide_eq_true hlt
      obtain ⟨op, n, x, rep, hq⟩ : ∃ a b c d, l.getD k default = ActS.mk a b c d := ⟨_, _, _, _, rfl⟩
      have k0 := hc 0 (.int .i64 op) (by rw [hq]; rfl)
      have k1 := hc 1 (.int .u64 n) (by rw [hq]; rfl)
      have k2 := hc 2 (.string x) (by rw [hq]; rfl)
      have k3 := hc 3 (.bool rep) (by rw [hq]; rfl)
      rw [Nat.add_zero] at k0
      clear hc hq hb
      by_cases hsz : x.size ≤ 50
      · have tz : decide ((50 : Int) < (x.size : Int)) = false := decide_eq_false (by omega)
        obtain ⟨s, hW, hP⟩ := hD.out
        have HFit : Hid s.Fit := hP.fit h2 h4 (by omega)
        have HWIN : Hid (s.win ≤ 16) := by show _ ≤ _; rw [hP.wins.1]; exact h2
        have HQUE : Hid (2 ≤ s.que ∧ s.que ≤ 32) := by show _ ∧ _; rw [hP.wins.2]; exact ⟨h3, h4⟩
        have HOK := Lib.hid hP.ok
        have HRG := Lib.hid (hP.rings (by omega))
        have HWA := Lib.hid (hW.same (mod_new wr (.cells #[.int .i64 op, .int .u64 n, .string x, .bool rep] 43)))
        have HXA : Hid ((wr.alloc (.cells #[.int .i64 op, .int .u64 n, .string x, .bool rep] 43)).heap[wr.heap.size]? = some (.cells #[.int .i64 op, .int .u64 n, .string x, .bool rep] 43 (0, 0))) := blk_new _ _
        have HPL := Lib.hid hP
        clear hW hP hD hlt
        go_upto_block 2 with (fail)
        clear k0 k1 k2 k3
        generalize wr.alloc (.cells #[.int .i64 op, .int .u64 n, .string x, .bool rep] 43) = wa at *
        generalize wr.heap.size = xb at *
        go_cut [16] (fun ok wx => ok = .bool true ∧ Hid (PlR base B R pr w1 win que (k + 1) wx))
        case first =>
          rename_i J0 K0 hJ0 hK0
          have HJ := Lib.hid hJ0
          clear hJ0
          have q0 : wa.cell? ⟨xb, 0, none⟩ = some (.int .i64 op) := (blk_cell HXA.out 0).trans rfl
          have q1 : wa.cell? ⟨xb, 1, none⟩ = some (.int .u64 n) := (blk_cell HXA.out 1).trans rfl
          have q2 : wa.cell? ⟨xb, 2, none⟩ = some (.string x) := (blk_cell HXA.out 2).trans rfl
          have q3 : wa.cell? ⟨xb, 3, none⟩ = some (.bool rep) := (blk_cell HXA.out 3).trans rfl
          by_cases o0 : op = 0
          · subst o0
            have HQ1 : Hid (∀ q, Calls Try.prog 18 #[.pointer (some ⟨B, 0, none⟩), .bool rep] (wa.drewN q) fun e w' => e = .returned (.bool (s.room rep)) ∧ ∃ m, w' = (wa.drewN q).drewN m) := Lib.hid fun q => pl_room (HWA.out.same ((Mod.refl _ _).drewN q)) rep HQUE.out
            have HQ2 : Hid (∀ q, Calls Try.prog 20 #[.pointer (some ⟨R, 0, none⟩), .bool rep] (wa.drewN q) fun e w' => e = .returned (.bool (s.room rep)) ∧ ∃ m, w' = (wa.drewN q).drewN m) := Lib.hid fun q => rroom_any _ R pr s rep (HWA.out.same ((Mod.refl _ _).drewN q)).ref HQUE.out
            go_wp2_with fail
            have tr : ((s.room rep) != (s.room rep)) = false := by simp
            go_quiet (first | (go_at_call 18; exact quiet_room (HQ1.out _)) | (go_at_call 20; exact quiet_room (HQ2.out _)))
            have HWq := Lib.hid (HWA.out.same ((Mod.refl (fun _ => False) _).drewN nq))
            have HXq : Hid ((wa.drewN nq).heap[xb]? = some (.cells #[.int .i64 0, .int .u64 n, .string x, .bool rep] 43 (0, 0))) := HXA.out
            obtain ⟨v1, W1, hrun, hm1, hsrc⟩ := conv_string (wa.drewN nq) x
            have p2 : (wa.drewN nq).cell? ⟨xb, 2, none⟩ = some (.string x) := (blk_cell HXq.out 2).trans rfl
            clear HQ1 HQ2 q0 q1 q2 q3
            generalize wa.drewN nq = wq at *
            cases hroom : s.room rep
            · skip
              have HP := Lib.hid (pl_push_no (HWq.out.same hm1) v1 rep HQUE.out hroom)
              have hblk := hm1.blk HXq.out (fun h => h)
              have f3 : W1.cell? ⟨xb, 3, none⟩ = some (.bool rep) := (blk_cell hblk 3).trans rfl
              have HBLK := Lib.hid hblk
              clear hm1 hsrc hblk
              go_wp2_with fail
              refine HP.out.mono ?_
              rintro e w5 ⟨rfl, hW, hk5⟩
              have hblk := hk5 _ _ _ (by decide) HBLK.out
              have f3' : w5.cell? ⟨xb, 3, none⟩ = some (.bool rep) := (blk_cell hblk 3).trans rfl
              have f2' : w5.cell? ⟨xb, 2, none⟩ = some (.string x) := (blk_cell hblk 2).trans rfl
              have HP2 := Lib.hid (pl_rpush_no hW rep x HQUE.out hroom)
              clear hW hk5 hblk f3 HP HBLK hrun
              go_wp2_with fail
              refine HP2.out.mono ?_
              rintro e w6 ⟨rfl, hW⟩
              have HW6 := Lib.hid hW
              have HI := Lib.hid (items_nil w6)
              clear hW HP2 f3' f2'
              go_wp2_with fail
              refine HI.out.mono ?_
              rintro e w7 ⟨rfl, n7, hn7⟩
              have HX : Hid (PlR base B R pr w1 win que (k + 1) w7) := ⟨s, HW6.out.same (by rw [hn7]; exact (Mod.refl _ _).drewN n7), HPL.out.same⟩
              clear hn7 HW6 HI HPL

              go_wp2
              refine Met.intro ?_
              refine HJ.out _ _ ?_
              repeat apply Exists.intro
              refine ⟨?rel, rfl⟩
              case rel => exact ⟨rfl, HX⟩
            · skip
              have HP := Lib.hid (pl_push (HWq.out.same hm1) v1 rep x HFit.out HQUE.out HWIN.out hroom hsrc hsz)
              have hblk := hm1.blk HXq.out (fun h => h)
              have f3 : W1.cell? ⟨xb, 3, none⟩ = some (.bool rep) := (blk_cell hblk 3).trans rfl
              have HBLK := Lib.hid hblk
              have HROOM := Lib.hid hroom
              clear hm1 hsrc hblk hroom
              go_wp2_with fail
              refine HP.out.mono ?_
              rintro e w5 ⟨Ao, co, rfl, hH, hk5⟩
              have hblk := hk5 _ _ _ (by decide) HBLK.out
              have f3' : w5.cell? ⟨xb, 3, none⟩ = some (.bool rep) := (blk_cell hblk 3).trans rfl
              have f2' : w5.cell? ⟨xb, 2, none⟩ = some (.string x) := (blk_cell hblk 2).trans rfl
              have HP2 := Lib.hid (pl_rpush hH rep HFit.out HQUE.out HWIN.out HROOM.out hsz HPL.out.busy HOK.out)
              clear hH hk5 hblk f3 HP HBLK hrun
              go_wp2_with fail
              refine HP2.out.mono ?_
              rintro e w6 ⟨rv, rfl, hW, ⟨N6, hi6⟩, hr6, -⟩
              have HW6 := Lib.hid hW
              have hll : (s.put x).news.length ≤ 1000 := by
                have := HFit.out.2.1
                unfold Shp.news
                rw [numbered_length, List.length_take]
                have : (s.put x).waits.length = s.waits.length + 1 := by show (s.waits ++ [x]).length = _; simp
                omega
              have HI := Lib.hid (items_same N6 w6 _ rv (s.put x).news hi6 hr6 hll)
              clear hW HP2 f3' f2' hi6 hr6 hll
              go_wp2_with fail
              refine HI.out.mono ?_
              rintro e w7 ⟨rfl, n7, hn7⟩
              have HX : Hid (PlR base B R pr w1 win que (k + 1) w7) := ⟨_, HW6.out.same (by rw [hn7]; exact (Mod.refl _ _).drewN n7), HPL.out.put hsz (room_lt HROOM.out)⟩
              clear hn7 HW6 HI HPL

              go_wp2
              refine Met.intro ?_
              refine HJ.out _ _ ?_
              repeat apply Exists.intro
              refine ⟨?rel, rfl⟩
              case rel => exact ⟨rfl, HX⟩
          · have tq0 : (op == 0) = false := beq_eq_false_iff_ne.2 o0
            by_cases o1 : op = 1
            · subst o1
              have HXd : Hid (wa.drew.heap[xb]? = some (.cells #[.int .i64 1, .int .u64 n, .string x, .bool rep] 43 (0, 0))) := HXA.out
              have HWd := Lib.hid (HWA.out.same (Mod.refl (fun _ => False) _).drew)
              clear q0 q2 q3
              by_cases hh : s.hears n
              · skip
                have HP := Lib.hid (pl_ack HWd.out n HFit.out HWIN.out hh)
                have HHH := Lib.hid hh
                have hll : (s.acked n).news.length ≤ 1000 := by
                  have := HFit.out.2.1
                  unfold Shp.news
                  rw [numbered_length, List.length_take]
                  have : (s.acked n).waits.length = s.waits.length := rfl
                  omega
                have HLL := Lib.hid hll
                clear hh hll
                go_wp2_with fail
                go_region_held3 (fun w' => w'.cell? ⟨xb, 1, none⟩ = some (.int .u64 n)) (first | assumption | exact (blk_cell HX5.out 1).trans rfl | exact (blk_cell HX6.out 1).trans rfl) (first | (go_at_call 12; refine HP.out.mono ?_; rintro e w5 ⟨Ao, co, rfl, hH, hk5⟩; have HH5 := Lib.hid hH; have HX5 := Lib.hid (hk5 _ _ _ (by decide) HXd.out); clear hH hk5) | (go_at_call 22; refine (pl_rack HH5.out HFit.out HWIN.out HHH.out HPL.out.srt HOK.out).mono ?_; rintro e w6 ⟨rv, rfl, hW, hi6, hr6, hk6⟩; have HX6 := Lib.hid (hk6 _ _ _ (by decide) HX5.out); have HW6 := Lib.hid hW; have HI6 := Lib.hid hi6; have HR6 := Lib.hid hr6; clear hW hi6 hr6 hk6) | (go_at_call 17; refine (items_same HI6.out.choose _ _ _ _ HI6.out.choose_spec HR6.out HLL.out).mono ?_; rintro e w7 ⟨rfl, n7, rfl⟩; have HW7 := Lib.hid (HW6.out.same ((Mod.refl (fun _ => False) _).drewN n7)); have HX7 : Hid ((w6.drewN n7).heap[xb]? = some (.cells #[.int .i64 1, .int .u64 n, .string x, .bool rep] 43 (0, 0))) := HX6.out))
                have HX : Hid (PlR base B R pr w1 win que (k + 1) (w6.drewN n7)) := ⟨_, HW7.out, HPL.out.ack n⟩

                go_wp2
                refine Met.intro ?_
                refine HJ.out _ _ ?_
                repeat apply Exists.intro
                refine ⟨?rel, rfl⟩
                case rel => exact ⟨rfl, HX⟩
              · skip
                have hn : s.out = [] ∨ ∃ x r, s.out = x :: r ∧ (n < x.num ∨ s.last < n) := by
                  cases ho : s.out with
                  | nil => exact .inl rfl
                  | cons y r =>
                    refine .inr ⟨y, r, rfl, ?_⟩
                    by_cases hy : y.num ≤ n ∧ n ≤ s.last
                    · exact (hh ⟨y, r, ho, hy.1, hy.2⟩).elim
                    · omega
                have HP := Lib.hid (pl_ack_no HWd.out n hn)
                have HHH := Lib.hid hn
                clear hh hn
                go_wp2_with fail
                go_region_held3 (fun w' => w'.cell? ⟨xb, 1, none⟩ = some (.int .u64 n)) (first | assumption | exact (blk_cell HX5.out 1).trans rfl | exact (blk_cell HX6.out 1).trans rfl) (first | (go_at_call 12; refine HP.out.mono ?_; rintro e w5 ⟨Ao, co, rfl, hH, hk5⟩; have HH5 := Lib.hid hH; have HX5 := Lib.hid (hk5 _ _ _ (by decide) HXd.out); clear hH hk5) | (go_at_call 22; refine (pl_rack_no HH5.out n HHH.out).mono ?_; rintro e w6 ⟨rv, rfl, hW, hi6, hr6, hk6⟩; have HX6 := Lib.hid (hk6 _ _ _ (by decide) HX5.out); have HW6 := Lib.hid hW; have HI6 := Lib.hid hi6; have HR6 := Lib.hid hr6; clear hW hi6 hr6 hk6) | (go_at_call 17; refine (items_same HI6.out.choose _ _ _ _ HI6.out.choose_spec HR6.out (by decide)).mono ?_; rintro e w7 ⟨rfl, n7, rfl⟩; have HW7 := Lib.hid (HW6.out.same ((Mod.refl (fun _ => False) _).drewN n7)); have HX7 : Hid ((w6.drewN n7).heap[xb]? = some (.cells #[.int .i64 1, .int .u64 n, .string x, .bool rep] 43 (0, 0))) := HX6.out))
                have HX : Hid (PlR base B R pr w1 win que (k + 1) (w6.drewN n7)) := ⟨_, HW7.out, HPL.out.same⟩

                go_wp2
                refine Met.intro ?_
                refine HJ.out _ _ ?_
                repeat apply Exists.intro
                refine ⟨?rel, rfl⟩
                case rel => exact ⟨rfl, HX⟩
            · skip
              have tq1 : (op == 1) = false := beq_eq_false_iff_ne.2 o1
              obtain ⟨L, hL⟩ : ∃ L, L = (if s.p.tick.2 = true then s.out else []) := ⟨_, rfl⟩
              have HP := Lib.hid (pl_tick HWA.out HFit.out HOK.out HRG.out)
              rw [← hL] at HP
              have HTL : Hid (L.length ≤ 1000) := by
                show _ ≤ _
                rw [hL]
                split
                · exact Nat.le_trans HFit.out.1 (by decide)
                · exact Nat.zero_le _
              have HLL := Lib.hid hL
              clear q0 q1 q2 q3 o0 o1 hL
              go_wp2_with fail
              refine HP.out.mono ?_
              rintro e w5 ⟨Ao, co, rfl, hH, -⟩
              have hL := HLL.out
              rw [hL] at hH
              have HP2 := Lib.hid (pl_rtick hH HFit.out HOK.out HRG.out)
              rw [← hL] at HP2
              clear hH HP hL HLL
              go_wp2_with fail
              refine HP2.out.mono ?_
              rintro e w6 ⟨rv, rfl, hW, ⟨N6, hi6⟩, hr6, -⟩
              have HW6 := Lib.hid hW
              have HI := Lib.hid (items_same N6 w6 _ rv _ hi6 hr6 HTL.out)
              clear hW HP2 hi6 hr6
              go_wp2_with fail
              refine HI.out.mono ?_
              rintro e w7 ⟨rfl, n7, hn7⟩
              have HX : Hid (PlR base B R pr w1 win que (k + 1) w7) := ⟨_, HW6.out.same (by rw [hn7]; exact (Mod.refl _ _).drewN n7), HPL.out.tick⟩
              clear hn7 HW6 HI HPL

              go_wp2
              refine Met.intro ?_
              refine HJ.out _ _ ?_
              repeat apply Exists.intro
              refine ⟨?rel, rfl⟩
              case rel => exact ⟨rfl, HX⟩
        case rest =>
          obtain ⟨rfl, HX⟩ := hcut
          clear HFit HWIN HQUE HOK HRG HWA HXA HPL
          obtain ⟨s', hW5, hP5⟩ := HX.out
          have HP5 := Lib.hid hP5
          have HF5 : Hid s'.Fit := hP5.fit h2 h4 (by omega)
          have HL := Lib.hid (pl_left hW5)
          clear hP5 hW5 HX
          go_wp2_with fail
          refine HL.out.mono ?_
          rintro e u1 ⟨rfl, hW⟩
          have HQ := Lib.hid (pl_waits hW HF5.out)
          clear hW HL
          go_wp2_with fail
          refine HQ.out.mono ?_
          rintro e u2 ⟨Aq, cq, rfl, ⟨Nq, hq⟩, hW⟩
          have HBO := Lib.hid hq
          have HW2 := Lib.hid hW
          clear hq hW HQ
          go_wp2_with fail
          obtain ⟨ov, wv, hR0⟩ := (HW2.out.same (Mod.refl (fun _ => False) _).drew).ref
          obtain ⟨A3, k3', rfl⟩ := RowOf.form hR0.out
          obtain ⟨A4, k4', rfl⟩ := RowOf.form hR0.waits
          have HOUT := Lib.hid (pl_out (HW2.out.same (Mod.refl (fun _ => False) _).drew) HF5.out)
          have HLA : Hid (∀ W, PlW base B R pr w1 s' W → Calls Try.prog 13 #[.pointer (some ⟨B, 0, none⟩)] W fun e w' => e = .returned (.int .u64 s'.last) ∧ W = w') := Lib.hid fun W h => sail_last h.sail
          have HOL : Hid (s'.out.length ≤ 1000) := Nat.le_trans HF5.out.1 (by decide)
          have tb : ((decide (0 < s'.p.left)) != (decide (0 < s'.p.left))) = false := by simp
          have hl9 : s'.waits.length ≤ 32 := HF5.out.2.1
          have HR00 := Lib.hid hR0
          have hS00 := six_of hR0
          clear hR0
          go_region_held3 (fun w' => w'.cell? ⟨R, 2, none⟩ = some (.pointer (some ⟨pr, 0, none⟩)) ∧ w'.cell? ⟨R, 3, none⟩ = some (.slice A3 s'.out.length k3') ∧ w'.cell? ⟨R, 4, none⟩ = some (.slice A4 s'.waits.length k4') ∧ w'.cell? ⟨R, 5, none⟩ = some (.int .u64 s'.last) ∧ w'.cell? ⟨pr, 3, none⟩ = some (.int .i64 s'.p.left) ∧ w'.cell? ⟨pr, 4, none⟩ = some (.bool (decide (0 < s'.p.left)))) (first | assumption | exact six_of HR00.out | exact six_of HR01.out | exact six_of HR02.out) (first | (go_at_call 11; refine HOUT.out.mono ?_; rintro e u3 ⟨vo, rfl, hio, hmo, hWo⟩; have HIO := Lib.hid hio; have HMO := Lib.hid hmo; have HWO := Lib.hid hWo; have HR01 := Lib.hid (HR00.out.same hmo); clear hio hmo hWo) | (go_at_call 17; refine (items_same HIO.out.choose _ vo _ _ HIO.out.choose_spec HR01.out.out HOL.out).mono ?_; rintro e u4 ⟨rfl, n4, rfl⟩; have HR02 := Lib.hid (HR01.out.same ((Mod.refl (fun _ => False) _).drewN n4)); have HW4 := Lib.hid (HWO.out.same ((Mod.refl (fun _ => False) _).drewN n4)); have HM4 := Lib.hid (((Mod.refl (fun _ => False) u2).drew.trans HMO.out).drewN n4)) | (go_at_call 13; refine (HLA.out _ HW4.out).mono ?_; rintro e u5 ⟨rfl, rfl⟩))
          have HB9 := Lib.hid (HBO.out.none HM4.out)
          have HW9 := Lib.hid HW4.out
          clear HIO HMO HWO HR00 HR01 HR02 HW4 HM4 hS00 HOUT HLA HBO HW2 tb
          generalize World.drewN u3 n4 = w9 at *
          go_wp2
          go_loopw [24] (fun i wq => ∃ j : Nat, j ≤ s'.waits.length ∧ i = .int .i64 j ∧ Hid (∃ m, wq = w9.drewN m)) (fun i _ => s'.waits.length - (intOf i).toNat)
          case atStart => exact ⟨0, Nat.zero_le _, rfl, ⟨0, rfl⟩⟩
          case round =>
            obtain ⟨j, hj, rfl, hWq⟩ := hrel
            obtain ⟨m9, hm9⟩ := hWq.out
            by_cases hjn : j < s'.waits.length
            · obtain ⟨xj, hxj⟩ : ∃ xj, s'.waits[j]? = some xj := ⟨_, List.getElem?_eq_getElem hjn⟩
              have hbq : BodiesAt Nq wr (.slice Aq s'.waits.length cq) s'.waits := by rw [hm9]; exact HB9.out.drewN m9
              obtain ⟨b1, o1, B1, cb1, hA1, e1, hc1⟩ := hbq.elem hxj
              have hR9 : RShip wr R pr s' := by rw [hm9]; exact (HW9.out.same ((Mod.refl (fun _ => False) _).drewN m9)).ref
              obtain ⟨ov9, wv9, hR9⟩ := hR9
              obtain ⟨A9, k9, rfl⟩ := RowOf.form hR9.waits
              have d4 : wr.cell? ⟨R, 4, none⟩ = some (.slice A9 s'.waits.length k9) := (blk_cell hR9.top 4).trans rfl
              obtain ⟨b2, o2, hA2, e2⟩ := RStrs.elem hR9.waits hxj
              subst hA1
              subst hA2
              have hji : (j : Int) < s'.waits.length := by omega
              have hji0 : (0 : Int) ≤ (j : Int) := by omega
              have hj9 : (j : Int) < 33 := by omega
              have tjn : decide (j < s'.waits.length) = true := decide_eq_true hjn
              have HWn : Hid (∀ q, ∃ m, wr.drewN q = w9.drewN m) := fun q => ⟨m9 + q, by rw [hm9, World.drewN_drewN]⟩
              clear hxj hbq hR9 hm9 hjn
              go_wp2_with fail
              go_quiet (fail)
              go_wp2
              go_roundw
              case rel => exact ⟨j + 1, by omega, by go_num, HWn.out _⟩
              case measure => simp [intOf]; omega
            · obtain rfl : j = s'.waits.length := by omega
              have tii : decide (s'.waits.length < s'.waits.length) = false := decide_eq_false (by omega)
              have HE : Hid (PlR base B R pr w1 win que (k + 1) wr) := by
                show PlR _ _ _ _ _ _ _ _ _
                rw [hm9]
                exact ⟨s', HW9.out.same ((Mod.refl (fun _ => False) _).drewN m9), HP5.out⟩
              clear hm9 hWq HB9 HW9 hjn
              go_wp2
              go_roundw
              case rel => exact ⟨k + 1, by omega, by go_num, HE⟩
              case measure => simp [intOf]; omega
      · have tz : decide ((50 : Int) < (x.size : Int)) = true := decide_eq_true (by omega)
        clear hsz
        go_wp2
        go_ret
        exact ⟨rfl, HBW.out.alloc HBW.out.size _⟩
    · obtain rfl : k = l.length := by omega
      have ti : decide (l.length < l.length) = false := decide_eq_false (by omega)
      go_wp2
      go_ret
      exact ⟨rfl, HBW.out⟩
end Go.Proofs.Ytcgfbbfepopinaa
